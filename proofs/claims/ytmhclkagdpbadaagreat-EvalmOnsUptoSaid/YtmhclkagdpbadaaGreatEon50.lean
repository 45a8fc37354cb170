/-
  A part of the proof.
-/
import Derived.Test.YtmhclkagdpbadaaGreatEon43
import Derived.Test.YtmhclkagdpbadaaGreatEon49
set_option linter.unusedVariables false
set_option linter.unusedSimpArgs false
set_option linter.unusedSimpArgs false
set_option linter.unusedVariables false
namespace Go.Mt
open Go Go.Pm Go.Proofs
def zV : VR := ((false, []), [])
theorem valV_nm (qs : List Rat) : valV (vnm qs) = qs := by
  have h := valM_nm [qs]
  rw [nm_one, valM_rows] at h
  exact (List.cons.inj h).1
theorem vecNorm_p (v : VR) (hd : Rz v.1) (hz : ∀ z ∈ v.2, Rz z) (hn : v.2.length < 549755813888) :
    PCall Tryz.prog 268 [.d (vd v)] (.tup [.d (vd (if ofR v.1 = 0 then zV else vnm (valV v))), .d (.v (.int .i64 (if ofR v.1 = 0 then 6 else 0)))]) := by
  have hc := vecCheck_p [v] (fun x hx => by obtain rfl := List.mem_singleton.1 hx; exact hd) (show 1 < 549755813888 by decide)
  by_cases h0 : ofR v.1 = 0
  · have e : vchE [v] = 6 := if_neg (by simp [h0])
    rw [e] at hc
    rw [if_pos h0, if_pos h0]
    refine pcall_of hmo Tryz.func268 rfl (by kernel_rfl) (by simp [Tryz.ntmps268]) ?_; simp -implicitDefEqProofs [go_sem, Tryz.ntmps268]; (repeat refine And.intro (by first | decide +kernel | omega | kernel_rfl) ?_); (try decide +kernel)
    refine .inl ⟨_, hc, ?_⟩; simp -implicitDefEqProofs [go_sem]; (repeat refine And.intro (by first | decide +kernel | omega | kernel_rfl) ?_); (try decide +kernel)
  · have e : vchE [v] = 0 := if_pos (by simp [h0])
    rw [e] at hc
    have hv := vec_p v.1 v.2 hd h0 hz hn
    have hv : PCall Tryz.prog 100 [.d (zd v.1), .d (.sl (zes v.2))] (.one (.d (vd (vnm (valV v))))) := hv
    rw [if_neg h0, if_neg h0]
    generalize vnm (valV v) = V at *
    refine pcall_of hmo Tryz.func268 rfl (by kernel_rfl) (by simp [Tryz.ntmps268]) ?_; simp -implicitDefEqProofs [go_sem, Tryz.ntmps268]; (repeat refine And.intro (by first | decide +kernel | omega | kernel_rfl) ?_); (try decide +kernel)
    refine .inl ⟨_, hc, ?_⟩; simp -implicitDefEqProofs [go_sem]; (repeat refine And.intro (by first | decide +kernel | omega | kernel_rfl) ?_); (try decide +kernel)
    refine .inl ⟨_, hv, ?_⟩; simp -implicitDefEqProofs [go_sem]; (repeat refine And.intro (by first | decide +kernel | omega | kernel_rfl) ?_); (try decide +kernel)
theorem qhs_one (q : Rat) : qhs [q] = qh q := Nat.zero_max _
/-- a vector's faults -/
def fvE (v : VR) (n : Nat) : Int := if ofR v.1 = 0 then 6 else if v.2.length ≠ n then 2 else if 4096 < qhs (valV v) then 4 else 0
def fvX (v : VR) (n : Nat) : VR := if fvE v n = 0 then vnm (valV v) else zV
/-- a vector that came in -/
structure Iw (v : VR) : Prop where
  d : Rz v.1
  ld : v.1.2.length < 1048577
  z : ∀ z ∈ v.2, Rz z ∧ z.2.length < 1048577
  n : v.2.length < 1048577
theorem Iw.ql {v : VR} (h : Iw v) (h0 : ofR v.1 ≠ 0) : ∀ q ∈ valV v, ql q ≤ 1048577 := fun q hq => by
  obtain ⟨z, hz, rfl⟩ := List.mem_map.1 hq
  have h3 := ql_ratv (ofR z) (ofR v.1) h0
  have := zl_ofR (h.z z hz).1
  have := zl_ofR h.d
  have := (h.z z hz).2
  have := h.ld
  omega
theorem vnm_rz {qs : List Rat} {v : VR} (h : qs = valV v) (hi : Iw v) (h0 : ofR v.1 ≠ 0) : Rz (vnm qs).1 ∧ (∀ z ∈ (vnm qs).2, Rz z) ∧ zl (ofR (vnm qs).1) ≤ 1048577 ∧ (∀ z ∈ (vnm qs).2, zl (ofR z) ≤ 1048577) := by
  have hm := nm_bound (D := ofR v.1) h0 (rows := [v.2]) (K := 1048577) (by simp [evenB, colsOf]) ⟨fun r hr z hz => by
      obtain rfl : r = v.2 := by simpa using hr
      exact (hi.z z hz).1, by simp, fun r hr => by
      obtain rfl : r = v.2 := by simpa using hr
      have := hi.n; omega⟩ (by decide) (by have := zl_ofR hi.d; have := hi.ld; omega) (fun r hr z hz => by
      obtain rfl : r = v.2 := by simpa using hr
      have := zl_ofR (hi.z z hz).1
      have := (hi.z z hz).2
      omega)
  have e : fracs (ofR v.1) (zz [v.2]) = [qs] := by rw [h]; unfold fracs zz valV valR; simp [Function.comp]
  rw [e, nm_one] at hm
  exact ⟨hm.d, fun z hz => hm.g.rz _ List.mem_cons_self z hz, hm.kd, fun z hz => hm.k _ List.mem_cons_self z hz⟩
set_option maxRecDepth 100000 in
set_option maxHeartbeats 1000000 in
theorem fitVec_p (v : VR) (h : Iw v) (n : Nat) : PCall Tryz.prog 229 [.d (vd v), .d (.v (.int .i64 (n : Int)))] (.tup [.d (vd (fvX v n)), .d (.v (.int .i64 (fvE v n)))]) := by
  have hno := vecNorm_p v h.d (fun z hz => (h.z z hz).1) (by have := h.n; omega)
  by_cases h0 : ofR v.1 = 0
  · have e : fvE v n = 6 := if_pos h0
    have ex : fvX v n = zV := if_neg (by rw [e]; decide)
    rw [if_pos h0, if_pos h0] at hno
    rw [e, ex]
    refine pcall_of hmo Tryz.func229 rfl (by kernel_rfl) (by simp [Tryz.ntmps229]) ?_; simp -implicitDefEqProofs [go_sem, Tryz.ntmps229]; (repeat refine And.intro (by first | decide +kernel | omega | kernel_rfl) ?_); (try decide +kernel)
    refine .inl ⟨_, hno, ?_⟩; simp -implicitDefEqProofs [go_sem]; (repeat refine And.intro (by first | decide +kernel | omega | kernel_rfl) ?_); (try decide +kernel)
  · rw [if_neg h0, if_neg h0] at hno
    have hql := h.ql h0
    obtain ⟨r1, r2, _, _⟩ := vnm_rz rfl h h0
    have hln : (vnm (valV v)).2.length = v.2.length := by simp [vnm, vns, valV_len]
    have hvv := valV_nm (valV v)
    have hvl := valV_len v
    have hne : ofR (vnm (valV v)).1 ≠ 0 := by
      show ofR (nrm _) ≠ 0
      rw [ofR_nrm]
      have := comDen_pos (valV v)
      omega
    by_cases h1 : v.2.length = n
    · have h1z : ((v.2.length : Nat) : Int) = (n : Int) := by omega
      obtain ⟨Q, hQ⟩ : ∃ Q, Q = valV v := ⟨_, rfl⟩
      have hfe : fvE v n = if 4096 < qhs Q then 4 else 0 := by unfold fvE; rw [if_neg h0, if_neg (by omega), hQ]
      have hfx : fvX v n = if 4096 < qhs Q then zV else vnm Q := by
        unfold fvX
        rw [hfe, ← hQ]
        by_cases hh : 4096 < qhs Q
        · rw [if_pos hh, if_pos hh, if_neg (by decide)]
        · rw [if_neg hh, if_neg hh, if_pos rfl]
      rw [hfe, hfx]
      rw [← hQ] at hno r1 r2 hln hvv hvl hql hne
      have hn := h.n
      generalize fvE v n = E at *
      generalize fvX v n = X at *
      obtain ⟨W, hW⟩ : ∃ W, W = vnm Q := ⟨_, rfl⟩
      rw [← hW] at hno r1 r2 hln hvv hne ⊢
      obtain ⟨D, Z⟩ := W
      have hln : Z.length = v.2.length := hln
      have r2 : ∀ z ∈ Z, Rz z := r2
      have r1 : Rz D := r1
      have hne : ofR D ≠ 0 := hne
      refine pcall_of hmo Tryz.func229 rfl (by kernel_rfl) (by simp [Tryz.ntmps229]) ?_; simp -implicitDefEqProofs [go_sem, Tryz.ntmps229]; (repeat refine And.intro (by first | decide +kernel | omega | kernel_rfl) ?_); (try decide +kernel)
      refine .inl ⟨_, hno, ?_⟩; simp -implicitDefEqProofs [go_sem]; (repeat refine And.intro (by first | decide +kernel | omega | kernel_rfl) ?_); (try decide +kernel)
      have hzz : ((Z.length : Nat) : Int) = (n : Int) := by omega
      simp -implicitDefEqProofs [go_sem, hzz]; (repeat refine And.intro (by first | decide +kernel | omega | kernel_rfl) ?_); (try decide +kernel)
      refine loop_rule [] (fun (k : Nat) => ⟨53, [(2, .pr 0 0 0 0), (4, .pr 4 0 0 0), (5, intP .i64 0), (29, .d (.sl (zes Z))), (30, intP .i64 (Z.length : Int)), (31, intP .i64 (k : Int))],
          [(0, .box [.d (.v (.bool D.1)), .d (.sl (les D.2)), .d (.sl (zes Z))]), (4, .box [.d (.v (.bool false)), .nl, .nl])], 1000⟩)
        (fun k => k ≤ Z.length ∧ allK (fun q => decide (qh q ≤ 4096)) Q k) (fun k => Z.length - k) 0 ⟨Nat.zero_le _, allK_zero _ _⟩ (by simp) (by simp -implicitDefEqProofs [go_sem, hzz]) (fun k ⟨hk, ha⟩ => ?_)
      by_cases hkl : k < Z.length
      · have hkQ : k < Q.length := by omega
        have hQk : ratv (ofR Z[k]) (ofR D) = Q[k] := by
          have e : Q[k] = (valV (D, Z))[k]'(by rw [valV_len]; exact hkl) := by congr 1; exact hvv.symm
          rw [e]; simp [valV, valR]
        have hmk := make_p Z[k] D (r2 _ (List.getElem_mem hkl)) r1 hne
        rw [hQk] at hmk
        have hqk := hql _ (List.getElem_mem hkQ)
        have hht := height_n [Q[k]] (show 1 < 549755813888 by decide) (fun q hq => by obtain rfl := List.mem_singleton.1 hq; omega)
        rw [qhs_one] at hht
        have hmem := qhs_mem (List.getElem_mem hkQ)
        by_cases hh : 4096 < qh Q[k]
        · rw [if_pos (by omega), if_pos (by omega)]
          have hh2 : (4096 : Int) < ((qh Q[k] : Nat) : Int) := by omega
          generalize Q[k] = q at *
          simp -implicitDefEqProofs [go_sem, hkl]; (repeat refine And.intro (by first | decide +kernel | omega | kernel_rfl) ?_); (try decide +kernel)
          refine .inl ⟨_, hmk, ?_⟩; simp -implicitDefEqProofs [go_sem, hkl]; (repeat refine And.intro (by first | decide +kernel | omega | kernel_rfl) ?_); (try decide +kernel)
          refine .inl ⟨_, hht, ?_⟩; simp -implicitDefEqProofs [go_sem, hh, hh2]; (repeat refine And.intro (by first | decide +kernel | omega | kernel_rfl) ?_); (try decide +kernel)
        · have hh2 : ¬ (4096 : Int) < ((qh Q[k] : Nat) : Int) := by omega
          have hall := allK_succ hkQ ha (decide_eq_true (by omega))
          generalize Q[k] = q at *
          simp -implicitDefEqProofs [go_sem, hkl]; (repeat refine And.intro (by first | decide +kernel | omega | kernel_rfl) ?_); (try decide +kernel)
          refine .inl ⟨_, hmk, ?_⟩; simp -implicitDefEqProofs [go_sem, hkl]; (repeat refine And.intro (by first | decide +kernel | omega | kernel_rfl) ?_); (try decide +kernel)
          refine .inl ⟨_, hht, ?_⟩; simp -implicitDefEqProofs [go_sem, hh, hh2]; (repeat refine And.intro (by first | decide +kernel | omega | kernel_rfl) ?_); (try decide +kernel)
          exact ⟨k + 1, ⟨by omega, hall⟩, by omega, by omega⟩
      · obtain rfl : k = Z.length := by omega
        have hqa : qhs Q ≤ 4096 := qhs_le Q fun q hm => by
          rw [show Z.length = Q.length by omega] at ha
          have := List.all_eq_true.1 (allK_all ha) q hm
          exact of_decide_eq_true this
        rw [if_neg (by omega), if_neg (by omega)]
        simp -implicitDefEqProofs [go_sem]; (repeat refine And.intro (by first | decide +kernel | omega | kernel_rfl) ?_); (try decide +kernel)
    · have h1z : ¬ ((v.2.length : Nat) : Int) = (n : Int) := by omega
      have e : fvE v n = 2 := by unfold fvE; rw [if_neg h0, if_pos h1]
      have ex : fvX v n = zV := if_neg (by rw [e]; decide)
      rw [e, ex]
      generalize vnm (valV v) = W at *
      refine pcall_of hmo Tryz.func229 rfl (by kernel_rfl) (by simp [Tryz.ntmps229]) ?_; simp -implicitDefEqProofs [go_sem, Tryz.ntmps229]; (repeat refine And.intro (by first | decide +kernel | omega | kernel_rfl) ?_); (try decide +kernel)
      refine .inl ⟨_, hno, ?_⟩; simp -implicitDefEqProofs [go_sem, hln, h1, h1z]; (repeat refine And.intro (by first | decide +kernel | omega | kernel_rfl) ?_); (try decide +kernel)
end Go.Mt
/-
  A part of the proof.
-/
set_option linter.unusedSimpArgs false
set_option linter.unusedVariables false
namespace Go.Mt
open Go Go.Pm Go.Proofs
/-- a vector with its bound -/
structure Gv (K : Nat) (v : VR) : Prop where
  d : Rz v.1
  ne : ofR v.1 ≠ 0
  rz : ∀ z ∈ v.2, Rz z
  k : ∀ z ∈ v.2, zl (ofR z) ≤ K
  kd : zl (ofR v.1) ≤ K
  n : v.2.length < 549755813888
theorem Gv.mono {K L : Nat} {v : VR} (h : Gv K v) (hl : K ≤ L) : Gv L v := ⟨h.d, h.ne, h.rz, fun z hz => Nat.le_trans (h.k z hz) hl, Nat.le_trans h.kd hl, h.n⟩
/-- a vector's place -/
def vz (v : VR) (j : Nat) : Int := ((v.2.map ofR)[j]?).getD 0
theorem vz_get {v : VR} {j : Nat} (h : j < v.2.length) : vz v j = ofR v.2[j] := by unfold vz; simp [h]
def vq (l : List Rat) (j : Nat) : Rat := (l[j]?).getD 0
theorem vq_get {l : List Rat} {j : Nat} (h : j < l.length) : vq l j = l[j] := by unfold vq; simp [h]
theorem vq_val (v : VR) (j : Nat) : vq (valV v) j = ratv (vz v j) (ofR v.1) := by
  unfold vq vz valV valR
  rw [List.getElem?_map, List.getElem?_map]
  cases v.2[j]? with
  | none => exact (ratv_z _).symm
  | some z => rfl
/-- normal forms are no longer than what they come from -/
theorem vnm_gv {D : Int} (h0 : D ≠ 0) {row : List ZR} (hr : ∀ z ∈ row, Rz z) {K : Nat} (hK : K < 1099511627776) (h1 : 1 ≤ K) (hD : zl D ≤ K) (hk : ∀ z ∈ row, zl (ofR z) ≤ K) (hn : row.length < 549755813888) : Gv K (vnm (valR D row)) := by
  have hm := nm_bound (D := D) h0 (rows := [row]) (K := K) (by simp [evenB, colsOf]) ⟨fun r hr2 z hz => by
      obtain rfl : r = row := by simpa using hr2
      exact hr z hz, by simp, fun r hr2 => by
      obtain rfl : r = row := by simpa using hr2
      exact hn⟩ hK hD (fun r hr2 z hz => by
      obtain rfl : r = row := by simpa using hr2
      exact hk z hz)
  have e : fracs D (zz [row]) = [valR D row] := by unfold fracs zz valR; simp [Function.comp]
  rw [e, nm_one, Nat.max_eq_left h1] at hm
  exact ⟨hm.d, hm.ne, fun z hz => hm.g.rz _ List.mem_cons_self z hz, fun z hz => hm.k _ List.mem_cons_self z hz, hm.kd, by simp [vnm, vns, valR]; exact hn⟩
/-- a matrix times a vector -/
def apQ (A : List (List Rat)) (l : List Rat) (r n : Nat) : List Rat := (List.range r).map fun i => sumN n fun j => entQ A i j * vq l j
def apZ (m : MR) (v : VR) (n i : Nat) : Int := sumZ n fun j => entry (zz m.2) i j * vz v j
def apR (m : MR) (v : VR) (n : Nat) : List ZR := (List.range m.2.length).map fun i => nrm (apZ m v n i)
theorem apR_len (m : MR) (v : VR) (n : Nat) : (apR m v n).length = m.2.length := by simp [apR]
theorem ap_val (m : MR) (v : VR) (n : Nat) (h1 : ofR m.1 ≠ 0) (h2 : ofR v.1 ≠ 0) : valR (ofR m.1 * ofR v.1) (apR m v n) = apQ (valM m) (valV v) m.2.length n := by
  unfold valR apR apQ
  rw [List.map_map]
  refine List.map_congr_left fun i _ => ?_
  show ratv (ofR (nrm _)) _ = _
  rw [ofR_nrm]
  unfold apZ
  rw [ratv_sum (Int.mul_ne_zero h1 h2)]
  refine sumN_congr fun j _ => ?_
  unfold valM
  rw [entQ_fracs, vq_val, ratv_mul]
theorem vecCheck_ok {K : Nat} (l : List VR) (h : ∀ v ∈ l, Gv K v) (hn : l.length < 549755813888) : PCall Tryz.prog 104 [.d (.sl (ves l))] (.one (.d (.v (.int .i64 0)))) := by
  have hc := vecCheck_p l (fun v hv => (h v hv).d) hn
  have e : vchE l = 0 := if_pos (List.all_eq_true.2 fun v hv => decide_eq_true (h v hv).ne)
  rw [e] at hc
  exact hc
set_option maxRecDepth 100000 in
set_option maxHeartbeats 2000000 in
theorem apply_p (m : MR) (v : VR) {K L : Nat} (hm : Gm K m) (hv : Gv L v) (hK : K + L + 2 < 1099511627776) (hn : v.2.length = colsOf m.2) :
    PCall Tryz.prog 236 [.d (md m), .d (vd v)] (.tup [.d (vd (vnm (apQ (valM m) (valV v) m.2.length (colsOf m.2)))), .d (.v (.int .i64 0))]) ∧ Gv (K + L + 2) (vnm (apQ (valM m) (valV v) m.2.length (colsOf m.2))) := by
  have hcl := colsOf_lt hm.g
  have hnr := hm.g.nr
  have hdl := zl_mul (ofR m.1) (ofR v.1)
  have hkm := hm.kd
  have hkv := hv.kd
  have hbd : ∀ i j, i < m.2.length → j ≤ colsOf m.2 → zl (apZ m v j i) ≤ K + L + 2 := fun i j hi hj => zl_sumZ (fun j' hj' => by
    obtain ⟨_, _, e1, h1⟩ := hm.ent hi (k := j') (by omega)
    have e2 := vz_get (v := v) (j := j') (by omega)
    have h2 := hv.k _ (List.getElem_mem (l := v.2) (n := j') (by omega))
    rw [e1, e2]
    have := zl_mul (ofR m.2[i][j']) (ofR v.2[j'])
    omega) (by omega)
  have hR : ∀ z ∈ apR m v (colsOf m.2), Rz z ∧ zl (ofR z) ≤ K + L + 2 := fun z hz => by
    obtain ⟨i, hi, rfl⟩ := List.mem_map.1 hz
    have := hbd i _ (List.mem_range.1 hi) (Nat.le_refl _)
    exact ⟨rz (by omega), by rw [ofR_nrm]; exact this⟩
  have hne := Int.mul_ne_zero hm.ne hv.ne
  have hval := ap_val m v (colsOf m.2) hm.ne hv.ne
  have g := vnm_gv (K := K + L + 2) hne (row := apR m v (colsOf m.2)) (fun z hz => (hR z hz).1) hK (by omega) (by omega) (fun z hz => (hR z hz).2) (by rw [apR_len]; exact hnr)
  rw [hval] at g
  refine ⟨?_, g⟩
  have hd := mul_p m.1 v.1 hm.d hv.d
  have hc := vecCheck_ok [v] (fun x hx => by obtain rfl := List.mem_singleton.1 hx; exact hv) (show 1 < 549755813888 by decide)
  have hvec := vec_p (nrm (ofR m.1 * ofR v.1)) (apR m v (colsOf m.2)) (rz (by omega)) (by rw [ofR_nrm]; exact hne) (fun z hz => (hR z hz).1) (by rw [apR_len]; exact hnr)
  rw [ofR_nrm, hval] at hvec
  have hck := check_p m hm.d hm.g
  have he : checkE m = 0 := by unfold checkE; rw [if_neg hm.ne, if_pos hm.ev]
  rw [he] at hck
  obtain ⟨R, hRd⟩ : ∃ R, R = apR m v (colsOf m.2) := ⟨_, rfl⟩
  have hRl : R.length = m.2.length := by rw [hRd, apR_len]
  have hRi : ∀ i (hi : i < R.length), R[i] = nrm (apZ m v (colsOf m.2) i) := fun i hi => by subst hRd; simp [apR]
  rw [← hRd] at hvec
  have hcz : ((colsOf m.2 : Nat) : Int) = ((v.2.length : Nat) : Int) := by omega
  generalize vnm (apQ (valM m) (valV v) m.2.length (colsOf m.2)) = X at *
  refine pcall_of hmo Tryz.func236 rfl (by kernel_rfl) (by simp [Tryz.ntmps236]) ?_; simp -implicitDefEqProofs [go_sem, Tryz.ntmps236]; (repeat refine And.intro (by first | decide +kernel | omega | kernel_rfl) ?_); (try decide +kernel)
  refine .inl ⟨_, hck, ?_⟩; simp -implicitDefEqProofs [go_sem]; (repeat refine And.intro (by first | decide +kernel | omega | kernel_rfl) ?_); (try decide +kernel)
  refine .inl ⟨_, hc, ?_⟩; simp -implicitDefEqProofs [go_sem]; (repeat refine And.intro (by first | decide +kernel | omega | kernel_rfl) ?_); (try decide +kernel)
  refine .inl ⟨_, size_p m hm.g, ?_⟩; simp -implicitDefEqProofs [go_sem, hcz, hn]; (repeat refine And.intro (by first | decide +kernel | omega | kernel_rfl) ?_); (try decide +kernel)
  obtain ⟨n, hcn⟩ : ∃ n, n = colsOf m.2 := ⟨_, rfl⟩
  rw [← hcn] at hRi hbd hn hcl
  refine loop_rule [.arr 10 25 2] (fun (i : Nat) => ⟨76, [(2, .pr 0 0 0 0), (3, .pr 4 0 0 0), (4, .pr 8 0 0 0), (5, intP .i64 0), (10, .sr 128 i), (41, .d (.sl (rws m.2))), (42, intP .i64 (m.2.length : Int)), (43, intP .i64 (i : Int))],
      [(128, .arr ⟨25, 2, i, false, zes (R.take i)⟩), (8, .box [.d (.v (.bool false)), .nl, .nl]), (4, .box [.d (.v (.bool v.1.1)), .d (.sl (les v.1.2)), .d (.sl (zes v.2))]), (0, .box (mbx m))], 1000⟩)
    (fun i => i ≤ m.2.length) (fun i => m.2.length - i) 0 (Nat.zero_le _) (by simp) (by simp -implicitDefEqProofs [go_sem, zes, mbx]) (fun i hi => ?_)
  by_cases hil : i < m.2.length
  · have hsn := take_snoc (e := zel (nrm (apZ m v n i))) zel R (k := i) (by omega) (by rw [hRi])
    have hrow := hm.row hil
    simp -implicitDefEqProofs [go_sem, hil, mbx]; (repeat refine And.intro (by first | decide +kernel | omega | kernel_rfl) ?_); (try decide +kernel)
    refine loop_rule [.nilB 1016 1] (fun (j : Nat) => ⟨76, [(2, .pr 0 0 0 0), (3, .pr 4 0 0 0), (4, .pr 8 0 0 0), (5, intP .i64 0), (10, .sr 128 i), (13, .pr 1016 0 0 0), (41, .d (.sl (rws m.2))), (42, intP .i64 (m.2.length : Int)), (43, intP .i64 (i : Int)), (47, .d (.sl (zes m.2[i]))), (48, intP .i64 (m.2[i].length : Int)), (49, intP .i64 (j : Int))],
        [(1016, .box [.d (.v (.bool (nrm (apZ m v j i)).1)), .d (.sl (les (nrm (apZ m v j i)).2))]), (128, .arr ⟨25, 2, i, false, zes (R.take i)⟩), (8, .box [.d (.v (.bool false)), .nl, .nl]), (4, .box [.d (.v (.bool v.1.1)), .d (.sl (les v.1.2)), .d (.sl (zes v.2))]), (0, .box (mbx m))], 2000⟩)
      (fun j => j ≤ n) (fun j => n - j) 0 (Nat.zero_le _) (by simp) (by simp -implicitDefEqProofs [go_sem, mbx, apZ, sumZ, nrm_zero, les_nil]) (fun j hj => ?_)
    by_cases hjl : j < n
    · obtain ⟨g1, r1, e1, k1⟩ := hm.ent hil (k := j) (by omega)
      have hjv : j < v.2.length := by omega
      have e2 := vz_get hjv
      have r2 := hv.rz _ (List.getElem_mem hjv)
      have k2 := hv.k _ (List.getElem_mem hjv)
      have hmu := mul_p m.2[i][j] v.2[j] r1 r2
      rw [← e1, ← e2] at hmu
      have hml := zl_mul (entry (zz m.2) i j) (vz v j)
      rw [e1, e2] at hml
      have had := add_n (apZ m v j i) (entry (zz m.2) i j * vz v j) (Nat.lt_of_le_of_lt (hbd i j hil hj) hK) (by rw [e1, e2]; omega)
      have e3 : apZ m v j i + entry (zz m.2) i j * vz v j = apZ m v (j + 1) i := rfl
      rw [e3] at had
      simp -implicitDefEqProofs [go_sem, hjl, hil, hjv, g1, mbx]; (repeat refine And.intro (by first | decide +kernel | omega | kernel_rfl) ?_); (try decide +kernel)
      refine .inl ⟨_, hmu, ?_⟩; simp -implicitDefEqProofs [go_sem]; (repeat refine And.intro (by first | decide +kernel | omega | kernel_rfl) ?_); (try decide +kernel)
      refine .inl ⟨_, had, ?_⟩; simp -implicitDefEqProofs [go_sem]; (repeat refine And.intro (by first | decide +kernel | omega | kernel_rfl) ?_); (try decide +kernel)
      refine ⟨j + 1, ?_⟩; (repeat' apply And.intro) <;> first | omega | assumption | rfl
    · obtain rfl : j = n := by omega
      rw [hcn] at hsn
      simp -implicitDefEqProofs [go_sem, mbx, hrow, hcn]; (repeat refine And.intro (by first | decide +kernel | omega | kernel_rfl) ?_); (try decide +kernel)
      refine ⟨i + 1, ?_⟩; (repeat' apply And.intro) <;> first | omega | (exact hsn) | assumption | rfl
  · obtain rfl : i = m.2.length := by omega
    rw [take_all hRl]
    simp -implicitDefEqProofs [go_sem, mbx]; (repeat refine And.intro (by first | decide +kernel | omega | kernel_rfl) ?_); (try decide +kernel)
    refine .inl ⟨_, hd, ?_⟩; simp -implicitDefEqProofs [go_sem]; (repeat refine And.intro (by first | decide +kernel | omega | kernel_rfl) ?_); (try decide +kernel)
    refine .inl ⟨_, hvec, ?_⟩; simp -implicitDefEqProofs [go_sem]; (repeat refine And.intro (by first | decide +kernel | omega | kernel_rfl) ?_); (try decide +kernel)
/-- a vector and so much of another -/
def vaQ (l k : List Rat) (c : Rat) : List Rat := (List.range l.length).map fun i => vq l i + c * vq k i
theorem vaQ_len (l k : List Rat) (c : Rat) : (vaQ l k c).length = l.length := by simp [vaQ]
def vaZ (a b : VR) (c : Rat) (i : Nat) : Int := vz a i * (ofR b.1 * (c.den : Int)) + vz b i * (ofR a.1 * c.num)
def vaR (a b : VR) (c : Rat) : List ZR := (List.range a.2.length).map fun i => nrm (vaZ a b c i)
theorem vaR_len (a b : VR) (c : Rat) : (vaR a b c).length = a.2.length := by simp [vaR]
theorem va_val (a b : VR) (c : Rat) (h1 : ofR a.1 ≠ 0) (h2 : ofR b.1 ≠ 0) : valR (ofR a.1 * (ofR b.1 * (c.den : Int))) (vaR a b c) = vaQ (valV a) (valV b) c := by
  have hc := den_ne c
  unfold valR vaR vaQ
  rw [List.map_map, valV_len]
  refine List.map_congr_left fun i _ => ?_
  show ratv (ofR (nrm _)) _ = _
  rw [ofR_nrm]
  unfold vaZ
  have h3 := Int.mul_ne_zero h2 hc
  rw [ratv_add1 _ _ (Int.mul_ne_zero h1 h3), ratv_left _ _ h3, vq_val, vq_val]
  congr 1
  have e1 : vz b i * (ofR a.1 * c.num) = ofR a.1 * (c.num * vz b i) := by
    rw [Int.mul_left_comm, Int.mul_comm (vz b i)]
  have e2 : ofR b.1 * (c.den : Int) = (c.den : Int) * ofR b.1 := Int.mul_comm _ _
  rw [e1, e2, ratv_scale h1, ← ratv_mul, ratv_self]
set_option maxRecDepth 100000 in
set_option maxHeartbeats 2000000 in
theorem vecAdd_p (a b : VR) (c : Rat) {K M L : Nat} (ha : Gv K a) (hb : Gv M b) (hc : ql c ≤ L) (hK : K + M + L + 1 < 1099511627776) (hn : b.2.length = a.2.length) :
    PCall Tryz.prog 237 [.d (vd a), .d (vd b), .d (qd (nq c))] (.tup [.d (vd (vnm (vaQ (valV a) (valV b) c))), .d (.v (.int .i64 0))]) ∧ Gv (K + M + L + 1) (vnm (vaQ (valV a) (valV b) c)) := by
  have hqn := ql_num c
  have hqd := ql_den c
  have hka := ha.kd
  have hkb := hb.kd
  have hna := ha.n
  have hnb := hb.n
  have z1 := zl_mul (ofR b.1) (c.den : Int)
  have z2 := zl_mul (ofR a.1) c.num
  have z3 := zl_mul (ofR a.1) (ofR b.1 * (c.den : Int))
  have hpt : ∀ i, i < a.2.length → zl (vz a i * (ofR b.1 * (c.den : Int))) ≤ K + M + L ∧ zl (vz b i * (ofR a.1 * c.num)) ≤ K + M + L ∧ zl (vaZ a b c i) ≤ K + M + L + 1 := fun i hi => by
    have h1 := ha.k _ (List.getElem_mem hi)
    have h2 := hb.k _ (List.getElem_mem (l := b.2) (n := i) (by omega))
    have y1 := zl_mul (vz a i) (ofR b.1 * (c.den : Int))
    have y2 := zl_mul (vz b i) (ofR a.1 * c.num)
    rw [vz_get hi] at y1 ⊢
    rw [vz_get (v := b) (j := i) (by omega)] at y2 ⊢
    refine ⟨by omega, by omega, ?_⟩
    unfold vaZ
    rw [vz_get hi, vz_get (v := b) (j := i) (by omega)]
    have := zl_add (ofR a.2[i] * (ofR b.1 * (c.den : Int))) (ofR b.2[i] * (ofR a.1 * c.num))
    omega
  have hR : ∀ z ∈ vaR a b c, Rz z ∧ zl (ofR z) ≤ K + M + L + 1 := fun z hz => by
    obtain ⟨i, hi, rfl⟩ := List.mem_map.1 hz
    have := (hpt i (List.mem_range.1 hi)).2.2
    exact ⟨rz (by omega), by rw [ofR_nrm]; exact this⟩
  have hne := Int.mul_ne_zero ha.ne (Int.mul_ne_zero hb.ne (den_ne c))
  have hval := va_val a b c ha.ne hb.ne
  have g := vnm_gv (K := K + M + L + 1) hne (row := vaR a b c) (fun z hz => (hR z hz).1) hK (by omega) (by omega) (fun z hz => (hR z hz).2) (by rw [vaR_len]; exact hna)
  rw [hval] at g
  refine ⟨?_, g⟩
  have hcc := vecCheck_ok [a, b] (fun x hx => by
    simp only [List.mem_cons, List.not_mem_nil, or_false] at hx
    rcases hx with rfl | rfl
    · exact ha.mono (Nat.le_max_left K M)
    · exact hb.mono (Nat.le_max_right K M)) (show 2 < 549755813888 by decide)
  have hno := norm_p (nq c) ⟨rz (by omega), rz (by omega)⟩ (by show ofR (nrm _) ≠ 0; rw [ofR_nrm]; exact den_ne c)
  rw [ofQ_nq] at hno
  have hup := mul_p b.1 (nq c).2 hb.d (rz (by omega))
  have hdn := mul_p a.1 (nq c).1 ha.d (rz (by omega))
  have e1 : ofR (nq c).2 = (c.den : Int) := ofR_nrm _
  have e2 : ofR (nq c).1 = c.num := ofR_nrm _
  rw [e1] at hup
  rw [e2] at hdn
  have hfi := mul_p a.1 (nrm (ofR b.1 * (c.den : Int))) ha.d (rz (by omega))
  rw [ofR_nrm] at hfi
  have hvec := vec_p (nrm (ofR a.1 * (ofR b.1 * (c.den : Int)))) (vaR a b c) (rz (by omega)) (by rw [ofR_nrm]; exact hne) (fun z hz => (hR z hz).1) (by rw [vaR_len]; exact hna)
  rw [ofR_nrm, hval] at hvec
  obtain ⟨R, hRd⟩ : ∃ R, R = vaR a b c := ⟨_, rfl⟩
  have hRl : R.length = a.2.length := by rw [hRd, vaR_len]
  have hRi : ∀ i (hi : i < R.length), R[i] = nrm (vaZ a b c i) := fun i hi => by subst hRd; simp [vaR]
  rw [← hRd] at hvec
  have hnz : ((a.2.length : Nat) : Int) = ((b.2.length : Nat) : Int) := by omega
  obtain ⟨C, hC⟩ : ∃ C, C = nq c := ⟨_, rfl⟩
  rw [← hC] at hno hup hdn ⊢
  obtain ⟨U, hU⟩ : ∃ U, U = ofR b.1 * (c.den : Int) := ⟨_, rfl⟩
  obtain ⟨V, hV⟩ : ∃ V, V = ofR a.1 * c.num := ⟨_, rfl⟩
  have hUV : ∀ i, vaZ a b c i = vz a i * U + vz b i * V := fun i => by rw [hU, hV]; rfl
  rw [← hU] at hup hfi z1 z3 hpt
  rw [← hV] at hdn z2 hpt
  rw [← hU] at hvec
  generalize vnm (vaQ (valV a) (valV b) c) = X at *
  refine pcall_of hmo Tryz.func237 rfl (by kernel_rfl) (by simp [Tryz.ntmps237]) ?_; simp -implicitDefEqProofs [go_sem, Tryz.ntmps237]; (repeat refine And.intro (by first | decide +kernel | omega | kernel_rfl) ?_); (try decide +kernel)
  refine .inl ⟨_, hcc, ?_⟩; simp -implicitDefEqProofs [go_sem]; (repeat refine And.intro (by first | decide +kernel | omega | kernel_rfl) ?_); (try decide +kernel)
  refine .inl ⟨_, hno, ?_⟩; simp -implicitDefEqProofs [go_sem]; (repeat refine And.intro (by first | decide +kernel | omega | kernel_rfl) ?_); (try decide +kernel)
  simp -implicitDefEqProofs [go_sem, hnz]; (repeat refine And.intro (by first | decide +kernel | omega | kernel_rfl) ?_); (try decide +kernel)
  refine .inl ⟨_, hup, ?_⟩; simp -implicitDefEqProofs [go_sem]; (repeat refine And.intro (by first | decide +kernel | omega | kernel_rfl) ?_); (try decide +kernel)
  refine .inl ⟨_, hdn, ?_⟩; simp -implicitDefEqProofs [go_sem]; (repeat refine And.intro (by first | decide +kernel | omega | kernel_rfl) ?_); (try decide +kernel)
  refine loop_rule [.arr 12 25 2] (fun (i : Nat) => ⟨79, [(3, .pr 0 0 0 0), (4, .pr 4 0 0 0), (6, .pr 12 0 0 0), (7, intP .i64 0), (10, .pr 152 0 0 0), (11, .pr 156 0 0 0), (12, .sr 188 i), (51, .d (.sl (zes a.2))), (52, intP .i64 (a.2.length : Int)), (53, intP .i64 (i : Int))],
      [(188, .arr ⟨25, 2, i, false, zes (R.take i)⟩), (156, .box [.d (.v (.bool (nrm V).1)), .d (.sl (les (nrm V).2))]), (152, .box [.d (.v (.bool (nrm U).1)), .d (.sl (les (nrm U).2))]), (12, .box [.d (.v (.bool false)), .nl, .nl]), (4, .box [.d (.v (.bool b.1.1)), .d (.sl (les b.1.2)), .d (.sl (zes b.2))]), (0, .box [.d (.v (.bool a.1.1)), .d (.sl (les a.1.2)), .d (.sl (zes a.2))])], 1000⟩)
    (fun i => i ≤ a.2.length) (fun i => a.2.length - i) 0 (Nat.zero_le _) (by simp) (by simp -implicitDefEqProofs [go_sem, zes]) (fun i hi => ?_)
  by_cases hil : i < a.2.length
  · have hib : i < b.2.length := by omega
    obtain ⟨p1, p2, p3⟩ := hpt i hil
    have m1 := mul_p a.2[i] (nrm U) (ha.rz _ (List.getElem_mem hil)) (rz (by omega))
    have m2 := mul_p b.2[i] (nrm V) (hb.rz _ (List.getElem_mem hib)) (rz (by omega))
    rw [ofR_nrm, ← vz_get hil] at m1
    rw [ofR_nrm, ← vz_get hib] at m2
    have had := add_n (vz a i * U) (vz b i * V) (by omega) (by omega)
    rw [← hUV i] at had
    have hsn := take_snoc (e := zel (nrm (vaZ a b c i))) zel R (k := i) (by omega) (by rw [hRi])
    simp -implicitDefEqProofs [go_sem, hil, hib]; (repeat refine And.intro (by first | decide +kernel | omega | kernel_rfl) ?_); (try decide +kernel)
    refine .inl ⟨_, m1, ?_⟩; simp -implicitDefEqProofs [go_sem, hib]; (repeat refine And.intro (by first | decide +kernel | omega | kernel_rfl) ?_); (try decide +kernel)
    refine .inl ⟨_, m2, ?_⟩; simp -implicitDefEqProofs [go_sem, hib]; (repeat refine And.intro (by first | decide +kernel | omega | kernel_rfl) ?_); (try decide +kernel)
    refine .inl ⟨_, had, ?_⟩; simp -implicitDefEqProofs [go_sem, hib]; (repeat refine And.intro (by first | decide +kernel | omega | kernel_rfl) ?_); (try decide +kernel)
    refine ⟨i + 1, ?_⟩; (repeat' apply And.intro) <;> first | omega | (exact hsn) | assumption | rfl
  · obtain rfl : i = a.2.length := by omega
    rw [take_all hRl]
    simp -implicitDefEqProofs [go_sem]; (repeat refine And.intro (by first | decide +kernel | omega | kernel_rfl) ?_); (try decide +kernel)
    refine .inl ⟨_, hfi, ?_⟩; simp -implicitDefEqProofs [go_sem]; (repeat refine And.intro (by first | decide +kernel | omega | kernel_rfl) ?_); (try decide +kernel)
    refine .inl ⟨_, hvec, ?_⟩; simp -implicitDefEqProofs [go_sem]; (repeat refine And.intro (by first | decide +kernel | omega | kernel_rfl) ?_); (try decide +kernel)
end Go.Mt
/-
  A part of the proof.
-/
set_option linter.unusedSimpArgs false
set_option linter.unusedVariables false
namespace Go.Mt
open Go Go.Pm Go.Proofs
theorem apQ_len (A : List (List Rat)) (l : List Rat) (r n : Nat) : (apQ A l r n).length = r := by simp [apQ]
theorem apQ_at (A : List (List Rat)) (l : List Rat) {r n i : Nat} (hi : i < r) : vq (apQ A l r n) i = sumN n fun j => entQ A i j * vq l j := by unfold vq apQ; simp [hi]; rfl
theorem vaQ_at (l k : List Rat) (c : Rat) {i : Nat} (hi : i < l.length) : vq (vaQ l k c) i = vq l i + c * vq k i := by
  show ((List.map _ _)[i]?).getD 0 = _
  simp [hi]
theorem vq_ext {l k : List Rat} (h : l.length = k.length) (he : ∀ i, i < l.length → vq l i = vq k i) : l = k := by
  refine List.ext_getElem h fun i h1 h2 => ?_
  have := he i h1
  rw [vq_get h1, vq_get h2] at this
  exact this
/-- Horner's way on a vector -/
def hoV (A : List (List Rat)) (n : Nat) (v : List Rat) : List Rat → List Rat
  | [] => List.replicate n 0
  | c :: cs => vaQ (apQ A (hoV A n v cs) n n) v c
theorem hoV_len (A : List (List Rat)) (n : Nat) (v l : List Rat) : (hoV A n v l).length = n := by
  cases l with
  | nil => exact List.length_replicate
  | cons c cs => show (vaQ _ _ _).length = n; rw [vaQ_len, apQ_len]
theorem pw_one (A : List (List Rat)) (n : Nat) {i k : Nat} (hi : i < n) : pwE A n 1 i k = entQ A i k := sumN_onel n i (fun j => entQ A j k) hi
theorem pw_left (A : List (List Rat)) (n t : Nat) {i k : Nat} (hi : i < n) (hk : k < n) : pwE A n (t + 1) i k = sumN n fun h => entQ A i h * pwE A n t h k := by
  rw [Nat.add_comm t 1, pwE_add A n 1 t hk]
  exact sumN_congr fun j _ => by rw [pw_one A n hi]
/-- the power's row, on the vector -/
def pvE (A : List (List Rat)) (n : Nat) (v : List Rat) (t i : Nat) : Rat := sumN n fun j => pwE A n t i j * vq v j
theorem pv_zero (A : List (List Rat)) (n : Nat) (v : List Rat) {i : Nat} (hi : i < n) : pvE A n v 0 i = vq v i := sumN_onel n i (fun j => vq v j) hi
theorem pv_succ (A : List (List Rat)) (n : Nat) (v : List Rat) (t : Nat) {i : Nat} (hi : i < n) : pvE A n v (t + 1) i = sumN n fun h => entQ A i h * pvE A n v t h := by
  unfold pvE
  rw [sumN_congr fun j hj => by rw [pw_left A n t hi hj, ← sumN_scaler], sumN_swap]
  refine sumN_congr fun h _ => ?_
  rw [← sumN_scale]
  exact sumN_congr fun j _ => Rat.mul_assoc _ _ _
theorem hoV_ent (A : List (List Rat)) (n : Nat) (v l : List Rat) {i : Nat} (hi : i < n) (N : Nat) (hN : l.length ≤ N) : vq (hoV A n v l) i = sumN N fun t => cf l t * pvE A n v t i := by
  induction l generalizing N i with
  | nil =>
    rw [sumN_nought _ _ fun t _ => by rw [cf_nil, Rat.zero_mul]]
    show ((List.replicate n (0 : Rat))[i]?).getD 0 = 0
    simp [List.getElem?_replicate, hi]
  | cons c cs ih =>
    obtain ⟨M, rfl⟩ : ∃ M, N = M + 1 := ⟨N - 1, by rw [List.length_cons] at hN; omega⟩
    rw [List.length_cons] at hN
    show vq (vaQ _ _ _) i = _
    rw [vaQ_at _ _ _ (by rw [apQ_len]; exact hi), apQ_at _ _ hi, sumN_shift]
    have e : sumN n (fun j => entQ A i j * vq (hoV A n v cs) j) = sumN M fun t => cf (c :: cs) (t + 1) * pvE A n v (t + 1) i := by
      rw [sumN_congr fun j hj => by rw [ih hj M (by omega), ← sumN_scale], sumN_swap]
      refine sumN_congr fun t _ => ?_
      rw [pv_succ A n v t hi, ← sumN_scale]
      refine sumN_congr fun j _ => ?_
      show entQ A i j * (cf cs t * _) = cf cs t * (entQ A i j * _)
      rw [← Rat.mul_assoc, Rat.mul_comm (entQ A i j), Rat.mul_assoc]
    rw [e, pv_zero A n v hi, Rat.add_comm]
    rfl
theorem po_ap (A : List (List Rat)) (n : Nat) (c : Nat → Rat) (v : List Rat) (N i : Nat) : (sumN n fun j => poE A n c N i j * vq v j) = sumN N fun t => c t * pvE A n v t i := by
  unfold poE pvE
  rw [sumN_congr fun j _ => by rw [← sumN_scaler], sumN_swap]
  refine sumN_congr fun t _ => ?_
  rw [← sumN_scale]
  exact sumN_congr fun j _ => Rat.mul_assoc _ _ _
/-- a polynomial on a vector is its value, times the vector -/
theorem hoV_ap (A : List (List Rat)) (n : Nat) (v l : List Rat) : hoV A n v l = apQ (hoQ A n l) v n n := by
  refine vq_ext (by rw [hoV_len, apQ_len]) fun i hi => ?_
  rw [hoV_len] at hi
  rw [hoV_ent A n v l hi l.length (Nat.le_refl _), apQ_at _ _ hi, ← po_ap]
  exact sumN_congr fun j hj => by rw [ho_ent A n l hi hj l.length (Nat.le_refl _)]
theorem vnm_zero (n : Nat) : vnm (List.replicate n 0) = (nrm 1, List.replicate n (nrm 0)) := by
  have hc : comDen (List.replicate n (0 : Rat)) = 1 := by
    induction n with
    | zero => rfl
    | succ n ih => rw [List.replicate_succ', comDen_snoc, ih]; rfl
  unfold vnm vns
  rw [hc, List.map_replicate]
  rfl
def vbx (v : VR) : List PV := [.d (.v (.bool v.1.1)), .d (.sl (les v.1.2)), .d (.sl (zes v.2))]
theorem vnm_len (qs : List Rat) : (vnm qs).2.length = qs.length := by simp [vnm, vns]
theorem on_step {n K M L X : Nat} {A : List (List Rat)} (ha : Sq n K A) {v : VR} (hv : Gv M v) (hvn : v.2.length = n) {H : List Rat} (hH : Gv X (vnm H)) (hl : H.length = n) {c : Rat} (hc : ql c ≤ L) (hK : K + X + M + L + 4 < 1099511627776) :
    PCall Tryz.prog 236 [.d (md (nm A)), .d (vd (vnm H))] (.tup [.d (vd (vnm (apQ A H n n))), .d (.v (.int .i64 0))]) ∧
    PCall Tryz.prog 237 [.d (vd (vnm (apQ A H n n))), .d (vd v), .d (qd (nq c))] (.tup [.d (vd (vnm (vaQ (apQ A H n n) (valV v) c))), .d (.v (.int .i64 0))]) ∧ Gv (K + X + M + L + 3) (vnm (vaQ (apQ A H n n) (valV v) c)) := by
  have l1 : (nm A).2.length = n := by rw [nm_len, ha.l]
  have w1 : colsOf (nm A).2 = n := by rw [nm_cols, ha.c]
  obtain ⟨p1, g1⟩ := apply_p (nm A) (vnm H) ha.g hH (by omega) (by rw [vnm_len, hl, w1])
  rw [valM_nm, valV_nm, l1, w1] at p1 g1
  obtain ⟨p2, g2⟩ := vecAdd_p (vnm (apQ A H n n)) v c g1 hv hc (by omega) (by rw [vnm_len, apQ_len, hvn])
  rw [valV_nm] at p2 g2
  exact ⟨p1, p2, g2.mono (by omega)⟩
theorem hoV_gv (l : List Rat) {n K M L : Nat} {A : List (List Rat)} (ha : Sq n K A) {v : VR} (hv : Gv M v) (hvn : v.2.length = n) (hq : ∀ q ∈ l, ql q ≤ L) (hK : (K + M + L + 6) * (l.length + 1) < 1099511627776) :
    Gv ((K + M + L + 6) * (l.length + 1)) (vnm (hoV A n (valV v) l)) := by
  induction l with
  | nil =>
    show Gv _ (vnm (List.replicate n 0))
    rw [vnm_zero]
    have e : (K + M + L + 6) * (([] : List Rat).length + 1) = K + M + L + 6 := by rw [List.length_nil]; omega
    rw [e]
    have hn := ha.n1
    have z1 : zl 1 = 1 := by decide
    have z0 : zl 0 = 0 := by decide
    exact ⟨rz (by decide), by show ofR (nrm 1) ≠ 0; rw [ofR_nrm]; decide, fun z hz => by
      rw [List.eq_of_mem_replicate hz]; exact rz (by decide), fun z hz => by
      rw [List.eq_of_mem_replicate hz, ofR_nrm]; omega, by show zl (ofR (nrm 1)) ≤ _; rw [ofR_nrm]; omega, by show (List.replicate n (nrm 0)).length < _; rw [List.length_replicate]; omega⟩
  | cons c cs ih =>
    rw [List.length_cons] at hK ⊢
    have e : (K + M + L + 6) * (cs.length + 1 + 1) = (K + M + L + 6) * (cs.length + 1) + (K + M + L + 6) := Nat.mul_succ _ _
    rw [e] at hK ⊢
    have h := ih (fun q hq2 => hq q (List.mem_cons_of_mem _ hq2)) (by omega)
    have g := (on_step ha hv hvn h (hoV_len _ _ _ _) (hq c List.mem_cons_self) (by omega)).2.2
    exact g.mono (by omega)
set_option maxRecDepth 100000 in
set_option maxHeartbeats 2000000 in
theorem on_x (l : List Rat) {n K M L : Nat} {A : List (List Rat)} (ha : Sq n K A) {v : VR} (hv : Gv M v) (hvn : v.2.length = n) (hq : ∀ q ∈ l, ql q ≤ L) (hl : l.length < 100000) (hK : (K + M + L + 6) * (l.length + 1) < 1099511627776) :
    PCall Tryz.prog 169 [.d (.sl (qes (l.map nq))), .d (md (nm A)), .d (vd v)] (.one (.d (vd (vnm (hoV A n (valV v) l))))) := by
  have hn := ha.n1
  have hval : (nm A).2.length = n := by rw [nm_len, ha.l]
  generalize hM : nm A = W at *
  have e1 : (nrm 1).1 = false ∧ les (nrm 1).2 = [[ud 1]] := ⟨by decide, by rfl⟩
  have hv0 : vnm (hoV A n (valV v) []) = (nrm 1, List.replicate n (nrm 0)) := vnm_zero n
  have hvd : vd (nrm 1, List.replicate n (nrm 0)) = .agg [.v (.bool false), .sl [[.v (.int .u32 1)]], .sl (List.replicate v.2.length [.v (.bool false), .sl []])] := by
    have e3 : zes (List.replicate n (nrm 0)) = List.replicate n [.v (.bool false), .sl []] := by unfold zes; rw [List.map_replicate]; rfl
    unfold vd
    rw [e3, hvn]
    rfl
  refine pcall_of hmo Tryz.func169 rfl (by kernel_rfl) (by simp [Tryz.ntmps169]) ?_; simp -implicitDefEqProofs [go_sem, Tryz.ntmps169]; (repeat refine And.intro (by first | decide +kernel | omega | kernel_rfl) ?_); (try decide +kernel)
  refine loop_rule [] (fun x : Option Nat => match x with
      | none => ⟨40, [(0, .d (.sl (qes (l.map nq)))), (4, .pr 0 0 0 0), (5, .pr 4 0 0 0), (6, .pr 8 0 0 0), (7, .pr 40 0 0 0), (8, intP .i64 ((l.length : Int) - 1))],
          [(40, .box [.d (.v (.bool false)), .sr 12 0, .sr 32 0]), (32, .arr ⟨25, 2, 0, false, List.replicate v.2.length [.v (.bool false), .sl []]⟩), (12, .arr ⟨86, 1, 0, false, [[.v (.int .u32 1)]]⟩), (8, .box [.d (.v (.bool false)), .nl, .nl]), (4, .box (vbx v)), (0, .box (mbx W))], 5000⟩
      | some k => ⟨40, [(0, .d (.sl (qes (l.map nq)))), (4, .pr 0 0 0 0), (5, .pr 4 0 0 0), (6, .pr 8 0 0 0), (7, .pr 40 0 0 0), (8, intP .i64 ((k : Int) - 1))],
          [(40, .box (vbx (vnm (hoV A n (valV v) (l.drop k))))), (8, .box [.d (.v (.bool false)), .nl, .nl]), (4, .box (vbx v)), (0, .box (mbx W))], 5000⟩)
    (fun x => match x with | none => True | some k => k < l.length) (fun x => match x with | none => l.length | some k => k) none trivial (by intro x _; cases x <;> simp) (by simp -implicitDefEqProofs [go_sem, mbx, vbx]) (fun x hx => ?_)
  cases x with
  | none =>
    by_cases h0 : l.length = 0
    · have el : l = [] := List.eq_nil_of_length_eq_zero h0
      subst el
      have e3 : zes (List.replicate n (nrm 0)) = List.replicate n [.v (.bool false), .sl []] := by unfold zes; rw [List.map_replicate]; rfl
      rw [hv0]
      simp -implicitDefEqProofs [go_sem, mbx, vbx, e1, e3, hvn]; (repeat refine And.intro (by first | decide +kernel | omega | kernel_rfl) ?_); (try decide +kernel)
      rfl
    · obtain ⟨j, hj⟩ : ∃ j, l.length = j + 1 := ⟨l.length - 1, by omega⟩
      have hjl : j < l.length := by omega
      have hj1 : (l.length : Int) - 1 = (j : Int) := by omega
      have ed : l.drop j = l[j] :: l.drop (j + 1) := List.drop_eq_getElem_cons hjl
      have ed2 : l.drop (j + 1) = [] := by rw [← hj]; exact List.drop_length
      rw [ed2] at ed
      have g0 := hoV_gv [] ha hv hvn (L := L) (fun q hq => by cases hq) (by
        have : (K + M + L + 6) * (([] : List Rat).length + 1) ≤ (K + M + L + 6) * (l.length + 1) := Nat.mul_le_mul_left _ (by rw [List.length_nil]; omega)
        omega)
      have hT : (K + M + L + 6) * (([] : List Rat).length + 1) = K + M + L + 6 := by rw [List.length_nil]; omega
      have hT2 : (K + M + L + 6) * 2 ≤ (K + M + L + 6) * (l.length + 1) := Nat.mul_le_mul_left _ (by omega)
      rw [hT] at g0
      obtain ⟨p1, p2, _⟩ := on_step ha hv hvn g0 (hoV_len _ _ _ _) (hq _ (List.getElem_mem hjl)) (by omega)
      rw [hv0, hvd] at p1
      rw [hM] at p1
      have e5 : vaQ (apQ A (hoV A n (valV v) []) n n) (valV v) l[j] = hoV A n (valV v) (l.drop j) := by rw [ed]; rfl
      rw [e5] at p2
      generalize hV : hoV A n (valV v) (l.drop j) = V at *
      generalize apQ A (hoV A n (valV v) []) n n = V1 at *
      simp -implicitDefEqProofs [go_sem, hjl, hj1, mbx, vbx]; (repeat refine And.intro (by first | decide +kernel | omega | kernel_rfl) ?_); (try decide +kernel)
      refine .inl ⟨_, p1, ?_⟩; simp -implicitDefEqProofs [go_sem, hjl]; (repeat refine And.intro (by first | decide +kernel | omega | kernel_rfl) ?_); (try decide +kernel)
      refine .inl ⟨_, p2, ?_⟩; simp -implicitDefEqProofs [go_sem, hjl]; (repeat refine And.intro (by first | decide +kernel | omega | kernel_rfl) ?_); (try decide +kernel)
      refine ⟨some j, hjl, hjl, ?_⟩
      simp -implicitDefEqProofs [go_sem, mbx, vbx, hV]
  | some k =>
    have hx : k < l.length := hx
    cases k with
    | zero =>
      have e : l.drop 0 = l := rfl
      generalize hVd : hoV A n (valV v) l = V at *
      simp -implicitDefEqProofs [go_sem, mbx, vbx, hVd]; (repeat refine And.intro (by first | decide +kernel | omega | kernel_rfl) ?_); (try decide +kernel)
    | succ j =>
      have hj : j < l.length := by omega
      have ed : l.drop j = l[j] :: l.drop (j + 1) := List.drop_eq_getElem_cons hj
      have hm : (K + M + L + 6) * ((l.drop (j + 1)).length + 1 + 1) ≤ (K + M + L + 6) * (l.length + 1) := Nat.mul_le_mul_left _ (by rw [List.length_drop]; omega)
      have hm2 : (K + M + L + 6) * ((l.drop (j + 1)).length + 1 + 1) = (K + M + L + 6) * ((l.drop (j + 1)).length + 1) + (K + M + L + 6) := Nat.mul_succ _ _
      have g0 := hoV_gv (l.drop (j + 1)) ha hv hvn (L := L) (fun q h => hq q (List.mem_of_mem_drop h)) (by omega)
      obtain ⟨p1, p2, _⟩ := on_step ha hv hvn g0 (hoV_len _ _ _ _) (hq _ (List.getElem_mem hj)) (by omega)
      rw [hM] at p1
      have e5 : vaQ (apQ A (hoV A n (valV v) (l.drop (j + 1))) n n) (valV v) l[j] = hoV A n (valV v) (l.drop j) := by rw [ed]; rfl
      rw [e5] at p2
      generalize hV : hoV A n (valV v) (l.drop j) = V at *
      generalize hV0 : hoV A n (valV v) (l.drop (j + 1)) = V0 at *
      generalize apQ A V0 n n = V1 at *
      simp -implicitDefEqProofs [go_sem, hj, mbx, vbx, hV0]; (repeat refine And.intro (by first | decide +kernel | omega | kernel_rfl) ?_); (try decide +kernel)
      refine .inl ⟨_, p1, ?_⟩; simp -implicitDefEqProofs [go_sem, hj]; (repeat refine And.intro (by first | decide +kernel | omega | kernel_rfl) ?_); (try decide +kernel)
      refine .inl ⟨_, p2, ?_⟩; simp -implicitDefEqProofs [go_sem, hj]; (repeat refine And.intro (by first | decide +kernel | omega | kernel_rfl) ?_); (try decide +kernel)
      refine ⟨some j, hj, Nat.lt_succ_self j, ?_⟩
      simp -implicitDefEqProofs [go_sem, mbx, vbx, hV]
end Go.Mt
/-
  A part of the proof.
-/
set_option linter.unusedSimpArgs false
set_option linter.unusedVariables false
namespace Go.Mt
open Go Go.Pm Go.Proofs
/-- what a call was given: a polynomial, a matrix, a vector -/
def bcl (f : List QR) (m : MR) (v : VR) : List PV := [.d (.sl (qes f)), .d (.v (.bool m.1.1)), .d (.sl (les m.1.2)), .d (.sl (rws m.2)), .d (.v (.bool v.1.1)), .d (.sl (les v.1.2)), .d (.sl (zes v.2))]
def hsB (f : List QR) (m : MR) (v : VR) (e : Int) : Heap := [(44, .box [.pr 32 0 0 0]), (48, .box [.d (.v (.bool true))]), (52, .box [.d (.v (.int .i64 e))]), (32, .box (bcl f m v))]
attribute [go_sem] bcl hsB
set_option maxRecDepth 100000 in
theorem bits1_h (l : List QR) (m : MR) (v : VR) (h : Ip l) : HCall Tryz.prog 225 [.pr 44 0 0 0, .pr 52 0 0 0] (hsB l m v 0) 1020 (.tup []) (hsB (fpX l) m v (fpE l)) := by
  have hf := fitPoly_p l h
  generalize fpX l = X at *
  refine hcall_of (L := []) hmo Tryz.func225 rfl (by kernel_rfl) (by simp [Tryz.ntmps225]) (by simp -implicitDefEqProofs [go_sem]) (by simp -implicitDefEqProofs [go_sem]) ?_
  simp -implicitDefEqProofs [go_sem, Tryz.ntmps225]
  refine .inl ⟨_, hf, ?_⟩; simp -implicitDefEqProofs [go_sem]; (repeat refine And.intro (by first | decide +kernel | omega | kernel_rfl) ?_); (try decide +kernel)
set_option maxRecDepth 100000 in
theorem bits2_h (X : List QR) (m : MR) (v : VR) (h : Im m) : HCall Tryz.prog 227 [.pr 44 0 0 0, .pr 52 0 0 0] (hsB X m v 0) 1020 (.tup []) (hsB X (fmX m) v (fitE m)) := by
  have hf := fitMat_y m h
  generalize fmX m = Y at *
  refine hcall_of (L := []) hmo Tryz.func227 rfl (by kernel_rfl) (by simp [Tryz.ntmps227]) (by simp -implicitDefEqProofs [go_sem]) (by simp -implicitDefEqProofs [go_sem]) ?_
  simp -implicitDefEqProofs [go_sem, Tryz.ntmps227]
  refine .inl ⟨_, hf, ?_⟩; simp -implicitDefEqProofs [go_sem]; (repeat refine And.intro (by first | decide +kernel | omega | kernel_rfl) ?_); (try decide +kernel)
set_option maxRecDepth 100000 in
theorem bits3_h (X : List QR) (m : MR) (v : VR) (h : Iw v) (hn : m.2.length < 549755813888) : HCall Tryz.prog 228 [.pr 48 0 0 0, .pr 44 0 0 0, .pr 52 0 0 0] (hsB X m v 0) 1020 (.tup []) (hsB X m (fvX v m.2.length) (fvE v m.2.length)) := by
  have hf := fitVec_p v h m.2.length
  generalize fvX v m.2.length = Y at *
  generalize fvE v m.2.length = E at *
  refine hcall_of (L := []) hmo Tryz.func228 rfl (by kernel_rfl) (by simp [Tryz.ntmps228]) (by simp -implicitDefEqProofs [go_sem]) (by simp -implicitDefEqProofs [go_sem]) ?_
  simp -implicitDefEqProofs [go_sem, Tryz.ntmps228]
  refine .inl ⟨_, hf, ?_⟩; simp -implicitDefEqProofs [go_sem]; (repeat refine And.intro (by first | decide +kernel | omega | kernel_rfl) ?_); (try decide +kernel)
def bitsE (l : List QR) (m : MR) (v : VR) : Int := if fpE l = 0 then (if fitE m = 0 then fvE v m.2.length else fitE m) else fpE l
def bitsM (l : List QR) (m : MR) : MR := if fpE l = 0 then fmX m else m
def bitsV (l : List QR) (m : MR) (v : VR) : VR := if fpE l = 0 ∧ fitE m = 0 then fvX v m.2.length else v
theorem fmX_len {m : MR} (h : fitE m = 0) : (fmX m).2.length = m.2.length := by unfold fmX; rw [if_pos h, nm_len, valM_len]
set_option maxRecDepth 100000 in
set_option maxHeartbeats 2000000 in
theorem bits_h (l : List QR) (m : MR) (v : VR) (hl : Ip l) (hm : Im m) (hv : Iw v) : HCall Tryz.prog 161 [.pr 32 0 0 0, .d (.v (.bool true))] [(32, .box (bcl l m v))] 44 (.d (.v (.int .i64 (bitsE l m v)))) [(32, .box (bcl (fpX l) (bitsM l m) (bitsV l m v)))] := by
  refine hcall_of (L := []) hmo Tryz.func161 rfl (by kernel_rfl) (by simp [Tryz.ntmps161]) (by simp -implicitDefEqProofs [go_sem]) (by simp -implicitDefEqProofs [go_sem]) ?_
  simp -implicitDefEqProofs [go_sem, Tryz.ntmps161]
  refine loop_rule [] (fun (k : Nat) => ⟨25, [(4, .pr 52 0 0 0), (12, .lt [.fn 225 [.pr 44 0 0 0, .pr 52 0 0 0], .fn 227 [.pr 44 0 0 0, .pr 52 0 0 0], .fn 228 [.pr 48 0 0 0, .pr 44 0 0 0, .pr 52 0 0 0]]), (13, intP .i64 3), (14, intP .i64 (k : Int))],
      hsB (if k = 0 then l else fpX l) (if k ≤ 1 then m else fmX m) (if k ≤ 2 then v else fvX v m.2.length) 0, 1000⟩)
    (fun k => k ≤ 3 ∧ (1 ≤ k → fpE l = 0) ∧ (2 ≤ k → fitE m = 0) ∧ (3 ≤ k → fvE v m.2.length = 0)) (fun k => 3 - k) 0 ⟨by omega, fun h => absurd h (by omega), fun h => absurd h (by omega), fun h => absurd h (by omega)⟩ (by simp) (by simp -implicitDefEqProofs [go_sem]) (fun k ⟨hk, h1, h2, h3⟩ => ?_)
  have hc : k = 0 ∨ k = 1 ∨ k = 2 ∨ k = 3 := by omega
  rcases hc with rfl | rfl | rfl | rfl
  · have hf := bits1_h l m v hl
    simp -implicitDefEqProofs [go_sem]; (repeat refine And.intro (by first | decide +kernel | omega | kernel_rfl) ?_); (try decide +kernel)
    refine .inr ⟨hsB l m v 0, _, _, hf, by simp -implicitDefEqProofs [go_sem], ?_⟩
    by_cases h0 : fpE l = 0
    · simp -implicitDefEqProofs [go_sem, h0]; (repeat refine And.intro (by first | decide +kernel | omega | kernel_rfl) ?_); (try decide +kernel)
      exact ⟨1, ⟨by omega, fun h => absurd h (by omega), fun h => absurd h (by omega)⟩, by omega, rfl, by simp, by simp, by simp, by simp⟩
    · have hX : fpX l = fpX l := rfl
      simp -implicitDefEqProofs [go_sem, h0, bitsE, bitsM, bitsV]; (repeat refine And.intro (by first | decide +kernel | omega | kernel_rfl) ?_); (try decide +kernel)
  · have h0 := h1 (by omega)
    have hf := bits2_h (fpX l) m v hm
    simp -implicitDefEqProofs [go_sem]; (repeat refine And.intro (by first | decide +kernel | omega | kernel_rfl) ?_); (try decide +kernel)
    refine .inr ⟨hsB (fpX l) m v 0, _, _, hf, by simp -implicitDefEqProofs [go_sem], ?_⟩
    by_cases h4 : fitE m = 0
    · simp -implicitDefEqProofs [go_sem, h4]; (repeat refine And.intro (by first | decide +kernel | omega | kernel_rfl) ?_); (try decide +kernel)
      exact ⟨2, ⟨by omega, fun _ => h0, fun h => absurd h (by omega)⟩, by omega, rfl, by simp, by simp, by simp, by simp⟩
    · simp -implicitDefEqProofs [go_sem, h0, h4, bitsE, bitsM, bitsV]; (repeat refine And.intro (by first | decide +kernel | omega | kernel_rfl) ?_); (try decide +kernel)
  · have h0 := h1 (by omega)
    have h4 := h2 (by omega)
    have hf := bits3_h (fpX l) (fmX m) v hv (by rw [fmX_len h4]; have := hm.n; omega)
    rw [fmX_len h4] at hf
    simp -implicitDefEqProofs [go_sem]; (repeat refine And.intro (by first | decide +kernel | omega | kernel_rfl) ?_); (try decide +kernel)
    refine .inr ⟨hsB (fpX l) (fmX m) v 0, _, _, hf, by simp -implicitDefEqProofs [go_sem], ?_⟩
    by_cases h5 : fvE v m.2.length = 0
    · simp -implicitDefEqProofs [go_sem, h5]; (repeat refine And.intro (by first | decide +kernel | omega | kernel_rfl) ?_); (try decide +kernel)
      refine ⟨3, ⟨by omega, ?_⟩, by omega, rfl, by simp, by simp, by simp, by simp⟩
      simp [h0, h4, h5]
    · simp -implicitDefEqProofs [go_sem, h0, h4, h5, bitsE, bitsM, bitsV]; (repeat refine And.intro (by first | decide +kernel | omega | kernel_rfl) ?_); (try decide +kernel)
  · have h0 := h1 (by omega)
    have h4 := h2 (by omega)
    have h5 := h3 (by omega)
    simp -implicitDefEqProofs [go_sem, h0, h4, h5, bitsE, bitsM, bitsV]; (repeat refine And.intro (by first | decide +kernel | omega | kernel_rfl) ?_); (try decide +kernel)
end Go.Mt
/-
  A part of the proof.
-/
set_option linter.unusedSimpArgs false
set_option linter.unusedVariables false
namespace Go.Mt
open Go Go.Pm Go.Proofs
theorem bitsE_zero {l : List QR} {m : MR} {v : VR} (h : bitsE l m v = 0) : fpE l = 0 ∧ fitE m = 0 ∧ fvE v m.2.length = 0 := by
  unfold bitsE at h
  by_cases h0 : fpE l = 0
  · rw [if_pos h0] at h
    by_cases h1 : fitE m = 0
    · rw [if_pos h1] at h; exact ⟨h0, h1, h⟩
    · rw [if_neg h1] at h; exact absurd h h1
  · rw [if_neg h0] at h; exact absurd h h0
theorem fvE_zero {v : VR} {n : Nat} (h : fvE v n = 0) : ofR v.1 ≠ 0 ∧ v.2.length = n ∧ qhs (valV v) ≤ 4096 := by
  unfold fvE at h
  by_cases h0 : ofR v.1 = 0
  · rw [if_pos h0] at h; exact absurd h (by decide)
  · rw [if_neg h0] at h
    by_cases h1 : v.2.length ≠ n
    · rw [if_pos h1] at h; exact absurd h (by decide)
    · rw [if_neg h1] at h
      by_cases h2 : 4096 < qhs (valV v)
      · rw [if_pos h2] at h; exact absurd h (by decide)
      · exact ⟨h0, by omega, by omega⟩
/-- a polynomial at a matrix, times a vector -/
def onQ (l : List QR) (m : MR) (v : VR) : List Rat := apQ (atQ l m) (valV v) m.2.length m.2.length
theorem Iw.gv {v : VR} (h : Iw v) (h0 : ofR v.1 ≠ 0) : Gv 1048577 (vnm (valV v)) := vnm_gv h0 (fun z hz => (h.z z hz).1) (by decide) (by decide) (by have := zl_ofR h.d; have := h.ld; omega) (fun z hz => by
  have := zl_ofR (h.z z hz).1
  have := (h.z z hz).2
  omega) (by have := h.n; omega)
theorem on_all {l : List QR} {m : MR} {v : VR} (hl : Ip l) (hm : Im m) (hv : Iw v) (h : bitsE l m v = 0) :
    PCall Tryz.prog 169 [.d (.sl (qes ((plQ l).map nq))), .d (md (nm (valM m))), .d (vd (vnm (valV v)))] (.one (.d (vd (vnm (onQ l m v))))) ∧ Gv 430000000 (vnm (onQ l m v)) := by
  obtain ⟨h0, h1, h2⟩ := bitsE_zero h
  obtain ⟨f1, f2, f3⟩ := fpE_may h0
  obtain ⟨v1, v2, v3⟩ := fvE_zero h2
  have hm1 : (1048577 + 1048577 + 2097154 + 6) * ((plQ l).length + 1) ≤ (1048577 + 1048577 + 2097154 + 6) * 102 := Nat.mul_le_mul_left _ (by omega)
  have hsl : (vnm (valV v)).2.length = m.2.length := by rw [vnm_len, valV_len, v2]
  have p := on_x (plQ l) (hm.sq h1) (hv.gv v1) hsl (plQ_ql2 hl f1) (by omega) (by omega)
  have g := hoV_gv (plQ l) (hm.sq h1) (hv.gv v1) hsl (plQ_ql2 hl f1) (by omega)
  have e : hoV (valM m) m.2.length (valV (vnm (valV v))) (plQ l) = onQ l m v := by rw [valV_nm, hoV_ap]; rfl
  rw [e] at p g
  exact ⟨p, g.mono (by omega)⟩
set_option maxRecDepth 100000 in
set_option maxHeartbeats 2000000 in
theorem On_p (l : List QR) (m : MR) (v : VR) (hl : Ip l) (hm : Im m) (hv : Iw v) :
    PCall Tryz.prog 86 [.d (.sl (qes l)), .d (md m), .d (vd v)] (.tup [.d (vd (if bitsE l m v = 0 then vnm (onQ l m v) else zV)), .d (.v (.int .i64 (bitsE l m v)))]) := by
  have hf := bits_h l m v hl hm hv
  by_cases h0 : bitsE l m v = 0
  · obtain ⟨h1, h2, h3⟩ := bitsE_zero h0
    have ha := (on_all hl hm hv h0).1
    have e1 : bitsM l m = nm (valM m) := by unfold bitsM fmX; rw [if_pos h1, if_pos h2]
    have e2 : bitsV l m v = vnm (valV v) := by unfold bitsV fvX; rw [if_pos ⟨h1, h2⟩, if_pos h3]
    rw [if_pos h0, h0]
    rw [h0, fpX_zero h1, e1, e2] at hf
    generalize (plQ l).map nq = X at *
    generalize nm (valM m) = Y at *
    generalize vnm (valV v) = W at *
    generalize vnm (onQ l m v) = Z at *
    refine pcall_of hmo Tryz.func86 rfl (by kernel_rfl) (by simp [Tryz.ntmps86]) ?_; simp -implicitDefEqProofs [go_sem, Tryz.ntmps86]; (repeat refine And.intro (by first | decide +kernel | omega | kernel_rfl) ?_); (try decide +kernel)
    refine .inr ⟨[(32, .box (bcl l m v))], _, _, hf, by simp -implicitDefEqProofs [go_sem], ?_⟩
    simp -implicitDefEqProofs [go_sem]; (repeat refine And.intro (by first | decide +kernel | omega | kernel_rfl) ?_); (try decide +kernel)
    refine .inl ⟨_, ha, ?_⟩; simp -implicitDefEqProofs [go_sem]; (repeat refine And.intro (by first | decide +kernel | omega | kernel_rfl) ?_); (try decide +kernel)
  · rw [if_neg h0]
    generalize bitsE l m v = E at *
    generalize bitsM l m = Y at *
    generalize bitsV l m v = W at *
    generalize fpX l = X at *
    refine pcall_of hmo Tryz.func86 rfl (by kernel_rfl) (by simp [Tryz.ntmps86]) ?_; simp -implicitDefEqProofs [go_sem, Tryz.ntmps86]; (repeat refine And.intro (by first | decide +kernel | omega | kernel_rfl) ?_); (try decide +kernel)
    refine .inr ⟨[(32, .box (bcl l m v))], _, _, hf, by simp -implicitDefEqProofs [go_sem], ?_⟩
    simp -implicitDefEqProofs [go_sem, h0]; (repeat refine And.intro (by first | decide +kernel | omega | kernel_rfl) ?_); (try decide +kernel)
theorem KillsVec_p (l : List QR) (m : MR) (v : VR) (hl : Ip l) (hm : Im m) (hv : Iw v) :
    PCall Tryz.prog 87 [.d (.sl (qes l)), .d (md m), .d (vd v)] (.tup [.d (.v (.bool (if bitsE l m v = 0 then isR (vnm (onQ l m v)).2 else false))), .d (.v (.int .i64 (bitsE l m v)))]) := by
  have ha := On_p l m v hl hm hv
  by_cases h0 : bitsE l m v = 0
  · obtain ⟨_, g⟩ := on_all hl hm hv h0
    rw [h0, if_pos rfl] at ha ⊢
    have hno := noughts_p (vnm (onQ l m v)).2 g.n (fun z hz => by
      have h1 := g.k z hz
      obtain ⟨q, _, rfl⟩ := List.mem_map.1 hz
      rw [ofR_nrm] at h1
      rw [rz_len]; omega)
    have hno : PCall Tryz.prog 170 [.d (.sl (zes (vnm (onQ l m v)).2))] (.one (.d (.v (.bool (isR (vnm (onQ l m v)).2))))) := hno
    generalize vnm (onQ l m v) = W at *
    refine pcall_of hmo Tryz.func87 rfl (by kernel_rfl) (by simp [Tryz.ntmps87]) ?_; simp -implicitDefEqProofs [go_sem, Tryz.ntmps87]; (repeat refine And.intro (by first | decide +kernel | omega | kernel_rfl) ?_); (try decide +kernel)
    refine .inl ⟨_, ha, ?_⟩; simp -implicitDefEqProofs [go_sem]; (repeat refine And.intro (by first | decide +kernel | omega | kernel_rfl) ?_); (try decide +kernel)
    refine .inl ⟨_, hno, ?_⟩; simp -implicitDefEqProofs [go_sem]; (repeat refine And.intro (by first | decide +kernel | omega | kernel_rfl) ?_); (try decide +kernel)
  · rw [if_neg h0] at ha ⊢
    generalize bitsE l m v = E at *
    refine pcall_of hmo Tryz.func87 rfl (by kernel_rfl) (by simp [Tryz.ntmps87]) ?_; simp -implicitDefEqProofs [go_sem, Tryz.ntmps87]; (repeat refine And.intro (by first | decide +kernel | omega | kernel_rfl) ?_); (try decide +kernel)
    refine .inl ⟨_, ha, ?_⟩; simp -implicitDefEqProofs [go_sem, h0, undef]; (repeat refine And.intro (by first | decide +kernel | omega | kernel_rfl) ?_); (try decide +kernel)
end Go.Mt
/-
  A part of the proof.
-/
set_option linter.unusedSimpArgs false
set_option linter.unusedVariables false
namespace Go.Mt
open Go Go.Pm Go.Proofs
/-- how many are not 0 -/
def cnt (qs : List Rat) : Nat := (qs.filter fun q => q ≠ 0).length
theorem nl_lcm2 (a b : Nat) (ha : 0 < a) (hb : 0 < b) : nl (Nat.lcm a b) ≤ nl a + nl b :=
  Nat.le_trans (nl_mono (Nat.le_of_dvd (Nat.mul_pos ha hb) (Nat.lcm_dvd (Nat.dvd_mul_right a b) (Nat.dvd_mul_left b a)))) (nl_mul a b)
theorem comDen_cnt (qs : List Rat) {B : Nat} (h : ∀ q ∈ qs, nl q.den ≤ B) : nl (comDen qs) ≤ 1 + B * cnt qs := by
  have key : ∀ (qs : List Rat) (m : Nat), 0 < m → (∀ q ∈ qs, nl q.den ≤ B) → nl (qs.foldl (fun (m : Nat) q => Nat.lcm m q.den) m) ≤ nl m + B * cnt qs := by
    intro qs
    induction qs with
    | nil => intro m _ _; exact Nat.le_add_right _ _
    | cons q qs ih =>
      intro m hm h
      have h1 := h q List.mem_cons_self
      have h2 := ih (Nat.lcm m q.den) (Nat.lcm_pos hm q.den_pos) (fun x hx => h x (List.mem_cons_of_mem _ hx))
      by_cases h0 : q = 0
      · have e : cnt (q :: qs) = cnt qs := by unfold cnt; rw [List.filter_cons_of_neg (by simpa using h0)]
        rw [e]
        have e2 : Nat.lcm m q.den = m := by rw [h0]; exact Nat.lcm_one_right m
        rw [e2] at h2
        show nl (qs.foldl _ (Nat.lcm m q.den)) ≤ _
        rw [e2]; exact h2
      · have e : cnt (q :: qs) = cnt qs + 1 := by unfold cnt; rw [List.filter_cons_of_pos (by simpa using h0)]; rfl
        rw [e, Nat.mul_succ]
        have h3 := nl_lcm2 m q.den hm q.den_pos
        show nl (qs.foldl _ (Nat.lcm m q.den)) ≤ _
        omega
  have h1 := key qs 1 (by decide) h
  have e : nl 1 = 1 := by decide
  rw [e] at h1
  exact h1
theorem ratv_big {z d : Int} (hd : d ≠ 0) (h0 : ratv z d ≠ 0) : d.natAbs ≤ z.natAbs * (ratv z d).den := by
  have h1 : Rat.divInt z d = Rat.divInt (ratv z d).num (ratv z d).den := (ratv_self (ratv z d)).symm
  have h2 := (Rat.divInt_eq_divInt_iff hd (den_ne _)).1 h1
  have h3 := congrArg Int.natAbs h2
  rw [Int.natAbs_mul, Int.natAbs_mul, Int.natAbs_natCast] at h3
  rw [h3]
  have : 0 < (ratv z d).num.natAbs := Int.natAbs_pos.2 (num_ne h0)
  exact Nat.le_mul_of_pos_left _ this
theorem cnt_sum (l : List ZR) (d : Int) (X : Nat) (h : ∀ z ∈ l, ratv (ofR z) d ≠ 0 → X ≤ z.2.length) : cnt (l.map fun z => ratv (ofR z) d) * X ≤ (l.map fun z => z.2.length).sum := by
  induction l with
  | nil => simp [cnt]
  | cons z l ih =>
    have h1 := ih fun x hx => h x (List.mem_cons_of_mem _ hx)
    have h2 := h z List.mem_cons_self
    rw [List.map_cons, List.map_cons, List.sum_cons]
    by_cases h0 : ratv (ofR z) d = 0
    · have e : cnt (ratv (ofR z) d :: l.map fun z => ratv (ofR z) d) = cnt (l.map fun z => ratv (ofR z) d) := by unfold cnt; rw [List.filter_cons_of_neg (by simpa using h0)]
      rw [e]; omega
    · have e : cnt (ratv (ofR z) d :: l.map fun z => ratv (ofR z) d) = cnt (l.map fun z => ratv (ofR z) d) + 1 := by unfold cnt; rw [List.filter_cons_of_pos (by simpa using h0)]; rfl
      have := h2 h0
      rw [e, Nat.succ_mul]; omega
theorem valM_flat (m : MR) : (valM m).flatten = m.2.flatten.map fun z => ratv (ofR z) (ofR m.1) := by
  rw [valM_rows, List.map_flatten]; rfl
/-- how much there is in a matrix -/
def limbsOf (m : MR) : Nat := (m.2.flatten.map fun z => z.2.length).sum
theorem fit_den {m : MR} (h : Im m) (h0 : fitE m = 0) (hb : limbsOf m ≤ 1048576) : nl (nrmD (valM m)) ≤ 12000 := by
  obtain ⟨c1, c2, c3, c4, c5⟩ := fit_zero h0
  obtain ⟨d0, _⟩ := check_parts c1
  have hq : ∀ q ∈ (valM m).flatten, ql q ≤ 128 := fun q hq => ql_of_qh (Nat.le_trans (qhs_mem hq) (by omega))
  have hden : ∀ q ∈ (valM m).flatten, nl q.den ≤ 128 := fun q h => by
    have h1 := hq q h
    have h2 := ql_den q
    rw [zl_nat] at h2; omega
  obtain ⟨X, hX⟩ : ∃ X, X = nl (nrmD (valM m)) := ⟨_, rfl⟩
  have h1 : X ≤ 1 + 128 * cnt (valM m).flatten := by rw [hX]; exact comDen_cnt _ hden
  have h2 : X ≤ nl (ofR m.1).natAbs := by rw [hX]; exact nrmD_nl _ d0 _ _ (Nat.le_refl _)
  have h3 : ∀ z ∈ m.2.flatten, ratv (ofR z) (ofR m.1) ≠ 0 → X - 128 ≤ z.2.length := fun z hz hne => by
    have g1 := nl_mono (ratv_big d0 hne)
    have g2 := nl_mul (ofR z).natAbs (ratv (ofR z) (ofR m.1)).den
    have g3 := hden (ratv (ofR z) (ofR m.1)) (by rw [valM_flat]; exact List.mem_map.2 ⟨z, hz, rfl⟩)
    obtain ⟨r, hr, hzr⟩ := List.mem_flatten.1 hz
    have g4 := zl_ofR (h.z r hr z hzr).1
    unfold zl at g4
    omega
  have h4 := cnt_sum m.2.flatten (ofR m.1) (X - 128) h3
  rw [← valM_flat] at h4
  rw [← hX]
  by_cases hx : X ≤ 12000
  · exact hx
  · have h5 : 93 ≤ cnt (valM m).flatten := by omega
    have h6 : 93 * 11873 ≤ cnt (valM m).flatten * (X - 128) := Nat.mul_le_mul h5 (by omega)
    unfold limbsOf at hb
    omega
theorem Im.sqs {m : MR} (h : Im m) (h0 : fitE m = 0) (hb : limbsOf m ≤ 1048576) : Sq m.2.length 12200 (valM m) := by
  have hs := h.sq h0
  have hd := fit_den h h0 hb
  obtain ⟨c1, c2, c3, c4, c5⟩ := fit_zero h0
  refine ⟨hs.n0, hs.n1, hs.l, hs.c, ⟨hs.g.d, hs.g.ne, hs.g.g, hs.g.ev, fun r hr z hz => ?_, ?_⟩⟩
  · obtain ⟨zs, h1, rfl⟩ := List.mem_map.1 hr
    obtain ⟨z0, h2, rfl⟩ := List.mem_map.1 hz
    obtain ⟨r0, h3, rfl⟩ := List.mem_map.1 h1
    obtain ⟨q, h4, rfl⟩ := List.mem_map.1 h2
    have hq : ql q ≤ 128 := ql_of_qh (Nat.le_trans (qhs_mem (List.mem_flatten.2 ⟨r0, h3, h4⟩)) (by omega))
    have h6 := nl_comNum (K := 128) (KL := 12000) (D := nrmD (valM m)) (q := q) (by have := ql_num q; unfold zl at this; omega) hd
    rw [ofR_nrm]
    unfold zl; omega
  · show zl (ofR (nrm _)) ≤ _
    rw [ofR_nrm, zl_nat]; omega
end Go.Mt
