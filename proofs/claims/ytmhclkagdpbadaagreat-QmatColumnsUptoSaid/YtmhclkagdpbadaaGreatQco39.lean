/-
  A part of the proof.
-/
import Derived.Test.YtmhclkagdpbadaaGreatQco36
import Derived.Test.YtmhclkagdpbadaaGreatQco38
set_option linter.unusedVariables false
set_option linter.unusedSimpArgs false
set_option linter.unusedSimpArgs false
set_option linter.unusedVariables false
namespace Go.Mt
open Go Go.Pm Go.Proofs
/-- a matrix that came in -/
structure Im (m : MR) : Prop where
  d : Rz m.1
  ld : m.1.2.length < 1048577
  z : ∀ r ∈ m.2, ∀ z ∈ r, Rz z ∧ z.2.length < 1048577
  n : m.2.length < 1048577
  w : ∀ r ∈ m.2, r.length < 1048577
  fl : m.2.flatten.length < 1048577
theorem Im.of {m : MR} {b : Nat} (h : MatM m b) (hb : b ≤ 1048576) : Im m :=
  ⟨h.1.1, by have := h.1.2; omega, fun r hr z hz => ⟨(h.2.1 r hr z hz).1, by have := (h.2.1 r hr z hz).2; omega⟩, by have := h.2.2.1; omega, fun r hr => by have := h.2.2.2.1 r hr; omega, by have := h.2.2.2.2; omega⟩
theorem Im.g {m : MR} (h : Im m) : Grw m.2 := ⟨fun r hr z hz => (h.z r hr z hz).1, by have := h.n; omega, fun r hr => by have := h.w r hr; omega⟩
theorem check_parts {m : MR} (h : checkE m = 0) : ofR m.1 ≠ 0 ∧ evenB m.2 = true := by
  unfold checkE at h
  by_cases h0 : ofR m.1 = 0
  · rw [if_pos h0] at h; exact absurd h (by decide)
  · rw [if_neg h0] at h
    by_cases h1 : evenB m.2 = true
    · exact ⟨h0, h1⟩
    · rw [if_neg h1] at h; exact absurd h (by decide)
theorem Im.gm {m : MR} (h : Im m) (hc : checkE m = 0) : Gm 1048577 m := by
  obtain ⟨h0, h1⟩ := check_parts hc
  exact ⟨h.d, h0, h.g, h1, fun r hr z hz => by
    have := zl_ofR (h.z r hr z hz).1
    have := (h.z r hr z hz).2
    omega, by have := zl_ofR h.d; have := h.ld; omega⟩
theorem Im.gl {m : MR} (h : Im m) (h0 : ofR m.1 ≠ 0) : Gl m := ⟨h.d, h0, h.g, by have := h.ld; omega, fun r hr z hz => by have := (h.z r hr z hz).2; omega⟩
theorem Im.vfl {m : MR} (h : Im m) : (valM m).flatten.length < 1048577 := by
  have e : (valM m).flatten.length = m.2.flatten.length := by
    rw [valM_rows, List.length_flatten, List.length_flatten, List.map_map]
    congr 1
    exact List.map_congr_left fun r _ => by simp [valR_len]
  rw [e]; exact h.fl
end Go.Mt
/-
  A part of the proof.
-/
set_option linter.unusedSimpArgs false
set_option linter.unusedVariables false
namespace Go.Mt
open Go Go.Pm Go.Proofs
def zM : MR := ((false, []), [])
/-- the first of two errors -/
def orE (a b : Int) : Int := if a = 0 then b else a
theorem orE_zero (b : Int) : orE 0 b = b := if_pos rfl
theorem orE_ne {a : Int} (b : Int) (h : a ≠ 0) : orE a b = a := if_neg h
theorem orE_assoc (a b c : Int) : orE (orE a b) c = orE a (orE b c) := by
  by_cases h : a = 0
  · rw [h, orE_zero, orE_zero]
  · rw [orE_ne _ h, orE_ne _ h, orE_ne _ h]
theorem orE_eq {a b : Int} (h : orE a b = 0) : a = 0 ∧ b = 0 := by
  by_cases h0 : a = 0
  · rw [h0, orE_zero] at h; exact ⟨h0, h⟩
  · rw [orE_ne _ h0] at h; exact absurd h h0
end Go.Mt
/-
  A part of the proof.
-/
set_option linter.unusedSimpArgs false
set_option linter.unusedVariables false
namespace Go.Mt
open Go Go.Pm Go.Proofs
/-- a vector: its denominator, its numbers -/
abbrev VR := ZR × List ZR
def vd (v : VR) : D := .agg [.v (.bool v.1.1), .sl (les v.1.2), .sl (zes v.2)]
def vel (v : VR) : List D := [.v (.bool v.1.1), .sl (les v.1.2), .sl (zes v.2)]
def ves (l : List VR) : List (List D) := l.map vel
def vE : D := .agg [.v (.bool false), .sl [], .sl []]
attribute [go_sem] vd vel vE
@[go_sem] theorem ves_len (l : List VR) : (ves l).length = l.length := by simp [ves]
@[go_sem] theorem ves_ge {l : List VR} {i : Nat} (h : i < (ves l).length) : (ves l)[i] = vel (l[i]'(by rw [ves_len] at h; exact h)) := by simp [ves]
/-- numbers over their least common denominator -/
def vns (qs : List Rat) : List ZR := qs.map fun q => nrm (comNum (comDen qs) q)
def vnm (qs : List Rat) : VR := (nrm (comDen qs : Int), vns qs)
def valV (v : VR) : List Rat := valR (ofR v.1) v.2
theorem nm_one (qs : List Rat) : nm [qs] = (nrm (comDen qs : Int), [vns qs]) := by
  unfold nm nrmZ nrmD vns
  simp
set_option maxRecDepth 100000 in
theorem vec_p (d : ZR) (row : List ZR) (hd : Rz d) (h0 : ofR d ≠ 0) (hr : ∀ z ∈ row, Rz z) (hn : row.length < 549755813888) : PCall Tryz.prog 100 [.d (zd d), .d (.sl (zes row))] (.one (.d (vd (vnm (valR (ofR d) row))))) := by
  have hm := made_q d [row] hd h0 ⟨fun r hr2 z hz => by obtain rfl : r = row := by simpa using hr2
                                                        exact hr z hz, by simp, fun r hr2 => by obtain rfl : r = row := by simpa using hr2
                                                                                                exact hn⟩ (by simp [evenB, colsOf])
  have e : fracs (ofR d) (zz [row]) = [valR (ofR d) row] := by unfold fracs zz valR; simp [Function.comp]
  rw [e, nm_one] at hm
  have hm : PCall Tryz.prog 107 [.d (zd d), .d (.sl [[.sl (zes row)]])] (.one (.d (.agg [.v (.bool (nrm (comDen (valR (ofR d) row) : Int)).1), .sl (les (nrm (comDen (valR (ofR d) row) : Int)).2), .sl [[.sl (zes (vns (valR (ofR d) row)))]]]))) := hm
  have hl : (vns (valR (ofR d) row)).length = row.length := by simp [vns, valR]
  have ev : vd (vnm (valR (ofR d) row)) = .agg [.v (.bool (nrm (comDen (valR (ofR d) row) : Int)).1), .sl (les (nrm (comDen (valR (ofR d) row) : Int)).2), .sl (zes (vns (valR (ofR d) row)))] := rfl
  rw [ev]
  generalize vns (valR (ofR d) row) = R at *
  generalize comDen (valR (ofR d) row) = D at *
  by_cases h1 : R.length = 0
  · have h2 : R = [] := List.eq_nil_of_length_eq_zero h1
    subst h2
    refine pcall_of hmo Tryz.func100 rfl (by kernel_rfl) (by simp [Tryz.ntmps100]) ?_; simp -implicitDefEqProofs [go_sem, Tryz.ntmps100]; (repeat refine And.intro (by first | decide +kernel | omega | kernel_rfl) ?_); (try decide +kernel)
    refine .inl ⟨_, hm, ?_⟩; simp -implicitDefEqProofs [go_sem]; (repeat refine And.intro (by first | decide +kernel | omega | kernel_rfl) ?_); (try decide +kernel)
  · have h2 : ¬ R = [] := fun h => h1 (by rw [h]; rfl)
    have h3 : ¬ ((R.length : Nat) : Int) = 0 := by omega
    refine pcall_of hmo Tryz.func100 rfl (by kernel_rfl) (by simp [Tryz.ntmps100]) ?_; simp -implicitDefEqProofs [go_sem, Tryz.ntmps100]; (repeat refine And.intro (by first | decide +kernel | omega | kernel_rfl) ?_); (try decide +kernel)
    refine .inl ⟨_, hm, ?_⟩; simp -implicitDefEqProofs [go_sem, h1, h2, h3]; (repeat refine And.intro (by first | decide +kernel | omega | kernel_rfl) ?_); (try decide +kernel)
theorem flat_e (m : MR) (hd : Rz m.1) (hg : Grw m.2) (hc : checkE m ≠ 0) : PCall Tryz.prog 14 [.d (md m)] (.tup [.d vE, .d (.v (.int .i64 (checkE m)))]) := by
  refine pcall_of hmo Tryz.func14 rfl (by kernel_rfl) (by simp [Tryz.ntmps14]) ?_; simp -implicitDefEqProofs [go_sem, Tryz.ntmps14]; (repeat refine And.intro (by first | decide +kernel | omega | kernel_rfl) ?_); (try decide +kernel)
  refine .inl ⟨_, check_p m hd hg, ?_⟩; simp -implicitDefEqProofs [go_sem, hc]; (repeat refine And.intro (by first | decide +kernel | omega | kernel_rfl) ?_); (try decide +kernel)
theorem columns_e (m : MR) (hd : Rz m.1) (hg : Grw m.2) (hc : checkE m ≠ 0) : PCall Tryz.prog 15 [.d (md m)] (.tup [.d (.sl []), .d (.v (.int .i64 (checkE m)))]) := by
  refine pcall_of hmo Tryz.func15 rfl (by kernel_rfl) (by simp [Tryz.ntmps15]) ?_; simp -implicitDefEqProofs [go_sem, Tryz.ntmps15]; (repeat refine And.intro (by first | decide +kernel | omega | kernel_rfl) ?_); (try decide +kernel)
  refine .inl ⟨_, sizem_e m hd hg hc, ?_⟩; simp -implicitDefEqProofs [go_sem, hc]; (repeat refine And.intro (by first | decide +kernel | omega | kernel_rfl) ?_); (try decide +kernel)
/-- the first of a list of vectors that cannot be -/
def vchE (l : List VR) : Int := if l.all (fun v => decide (ofR v.1 ≠ 0)) = true then 0 else 6
theorem vecCheck_p (l : List VR) (hl : ∀ v ∈ l, Rz v.1) (hn : l.length < 549755813888) : PCall Tryz.prog 104 [.d (.sl (ves l))] (.one (.d (.v (.int .i64 (vchE l))))) := by
  refine pcall_of hmo Tryz.func104 rfl (by kernel_rfl) (by simp [Tryz.ntmps104]) ?_; simp -implicitDefEqProofs [go_sem, Tryz.ntmps104]; (repeat refine And.intro (by first | decide +kernel | omega | kernel_rfl) ?_); (try decide +kernel)
  refine loop_rule [] (fun (k : Nat) => ⟨16, [(5, .d (.sl (ves l))), (6, intP .i64 (l.length : Int)), (7, intP .i64 (k : Int))], [], 1000⟩)
    (fun k => k ≤ l.length ∧ allK (fun v => decide (ofR v.1 ≠ 0)) l k) (fun k => l.length - k) 0 ⟨Nat.zero_le _, allK_zero _ _⟩ (by simp) (by simp -implicitDefEqProofs [go_sem]) (fun k ⟨hk, ha⟩ => ?_)
  by_cases hkl : k < l.length
  · have hs := sign_p l[k].1 (hl _ (List.getElem_mem hkl))
    by_cases h0 : ofR l[k].1 = 0
    · have e : vchE l = 6 := if_neg (fun h => by
        have := List.all_eq_true.1 h _ (List.getElem_mem hkl)
        simp [h0] at this)
      rw [h0] at hs
      rw [e]
      simp -implicitDefEqProofs [go_sem, hkl]; (repeat refine And.intro (by first | decide +kernel | omega | kernel_rfl) ?_); (try decide +kernel)
      refine .inl ⟨_, hs, ?_⟩; simp -implicitDefEqProofs [go_sem]; (repeat refine And.intro (by first | decide +kernel | omega | kernel_rfl) ?_); (try decide +kernel)
    · have hsg : ¬ (ofR l[k].1).sign = 0 := fun h => h0 (Int.sign_eq_zero_iff_zero.1 h)
      simp -implicitDefEqProofs [go_sem, hkl]; (repeat refine And.intro (by first | decide +kernel | omega | kernel_rfl) ?_); (try decide +kernel)
      refine .inl ⟨_, hs, ?_⟩; simp -implicitDefEqProofs [go_sem, hsg]; (repeat refine And.intro (by first | decide +kernel | omega | kernel_rfl) ?_); (try decide +kernel)
      exact ⟨k + 1, ⟨by omega, by simpa using allK_succ hkl ha (by simp [h0])⟩, by omega, by omega⟩
  · obtain rfl : k = l.length := by omega
    have e : vchE l = 0 := if_pos (allK_all ha)
    rw [e]
    simp -implicitDefEqProofs [go_sem]; (repeat refine And.intro (by first | decide +kernel | omega | kernel_rfl) ?_); (try decide +kernel)
end Go.Mt
/-
  A part of the proof.
-/
set_option linter.unusedSimpArgs false
set_option linter.unusedVariables false
namespace Go.Mt
open Go Go.Pm Go.Proofs
/-- the numbers that have come, row by row -/
def zfl (rows : List (List ZR)) (i : Nat) : List ZR := (rows.take i).flatten
def zin (l : List ZR) (r : List ZR) (j : Nat) : List ZR := l ++ r.take j
theorem zfl_succ {rows : List (List ZR)} {i : Nat} (hi : i < rows.length) : zin (zfl rows i) rows[i] rows[i].length = zfl rows (i + 1) := by
  unfold zfl zin
  rw [List.take_add_one, List.getElem?_eq_getElem hi, List.flatten_append, List.take_length]
  simp
theorem zin_succ (l : List ZR) {r : List ZR} {j : Nat} (hj : j < r.length) {e : List D} (he : e = zel r[j]) : zes (zin l r j) ++ [e] = zes (zin l r (j + 1)) := by
  unfold zin
  rw [List.take_add_one, List.getElem?_eq_getElem hj, he, ← List.append_assoc]
  unfold zes
  rw [List.map_append (l₁ := l ++ r.take j)]
  rfl
theorem zin_len (l : List ZR) {r : List ZR} {j : Nat} (hj : j < r.length) : (zin l r (j + 1)).length = (zin l r j).length + 1 := by
  unfold zin; simp; omega
theorem zfl_le (rows : List (List ZR)) {i : Nat} (hi : i < rows.length) : (zfl rows i).length + rows[i].length ≤ rows.flatten.length := by
  have e : rows.flatten = (rows.take i).flatten ++ rows[i] ++ (rows.drop (i + 1)).flatten := by
    conv => lhs; rw [← List.take_append_drop i rows, List.flatten_append, List.drop_eq_getElem_cons hi, List.flatten_cons]
    rw [List.append_assoc]
  rw [e]; unfold zfl; simp
theorem valR_flat (d : Int) (rows : List (List ZR)) : valR d rows.flatten = (rows.map (valR d)).flatten := by unfold valR; rw [List.map_flatten]
set_option maxRecDepth 100000 in
set_option maxHeartbeats 2000000 in
theorem flat_p (m : MR) (hd : Rz m.1) (hg : Grw m.2) (hc : checkE m = 0) (hn : m.2.flatten.length < 549755813888) : PCall Tryz.prog 14 [.d (md m)] (.tup [.d (vd (vnm (valM m).flatten)), .d (.v (.int .i64 0))]) := by
  have hck := check_p m hd hg
  rw [hc] at hck
  have hv := vec_p m.1 m.2.flatten hd (check_parts hc).1 (fun z hz => by obtain ⟨r, hr, hz⟩ := List.mem_flatten.1 hz; exact hg.rz r hr z hz) hn
  rw [valR_flat, ← valM_rows] at hv
  have hnr := hg.nr
  have hnc := hg.nc
  refine pcall_of hmo Tryz.func14 rfl (by kernel_rfl) (by simp [Tryz.ntmps14]) ?_; simp -implicitDefEqProofs [go_sem, Tryz.ntmps14]; (repeat refine And.intro (by first | decide +kernel | omega | kernel_rfl) ?_); (try decide +kernel)
  refine .inl ⟨_, hck, ?_⟩; simp -implicitDefEqProofs [go_sem]; (repeat refine And.intro (by first | decide +kernel | omega | kernel_rfl) ?_); (try decide +kernel)
  refine .inr ⟨[], _, _, eachI_h _ _, by simp -implicitDefEqProofs [go_sem], ?_⟩
  simp -implicitDefEqProofs [go_sem]; (repeat refine And.intro (by first | decide +kernel | omega | kernel_rfl) ?_); (try decide +kernel)
  refine ⟨_, rfl, by decide +kernel, ?_⟩
  simp -implicitDefEqProofs [go_sem]; (repeat refine And.intro (by first | decide +kernel | omega | kernel_rfl) ?_); (try decide +kernel)
  refine loop_rule [.arrB 32 0 25 2] (fun (i : Nat) => ⟨25, [(0, .yd), (7, .d (.sl (rws m.2))), (8, intP .i64 (m.2.length : Int)), (9, intP .i64 (i : Int))],
    [(32, .box [.sr 60 (zfl m.2 i).length]), (60, .arr ⟨25, 2, (zfl m.2 i).length, false, zes (zfl m.2 i)⟩), (4, .box [.d (.v (.bool false)), .nl, .nl]), (0, .box (mbx m))], 1000⟩)
    (fun i => i ≤ m.2.length) (fun i => m.2.length - i) 0 (Nat.zero_le _) (by simp) (by simp -implicitDefEqProofs [go_sem, zfl, zes]) (fun i hi => ?_)
  by_cases hil : i < m.2.length
  · obtain ⟨row, hrow⟩ : ∃ row, row = m.2[i] := ⟨_, rfl⟩
    have hrl1 := hnc _ (List.getElem_mem hil)
    have hle := zfl_le m.2 hil
    have hsc := zfl_succ hil
    rw [← hrow] at hrl1 hle hsc
    simp -implicitDefEqProofs [go_sem, hil]; (repeat refine And.intro (by first | decide +kernel | omega | kernel_rfl) ?_); (try decide +kernel)
    rw [← hrow]
    refine loop_rule [] (fun (j : Nat) => ⟨25, [(0, .yd), (7, .d (.sl (rws m.2))), (8, intP .i64 (m.2.length : Int)), (9, intP .i64 (i : Int)), (13, .d (.sl (zes row))), (14, intP .i64 (row.length : Int)), (15, intP .i64 (j : Int))],
      [(32, .box [.sr 60 (zin (zfl m.2 i) row j).length]), (60, .arr ⟨25, 2, (zin (zfl m.2 i) row j).length, false, zes (zin (zfl m.2 i) row j)⟩), (4, .box [.d (.v (.bool false)), .nl, .nl]), (0, .box (mbx m))], 2000⟩)
      (fun j => j ≤ row.length) (fun j => row.length - j) 0 (Nat.zero_le _) (by simp) (by simp -implicitDefEqProofs [go_sem, zin]) (fun j hj => ?_)
    by_cases hjl : j < row.length
    · have h2 := zin_len (zfl m.2 i) hjl
      have h3 : (zin (zfl m.2 i) row j).length ≤ (zfl m.2 i).length + row.length := by unfold zin; simp; omega
      simp -implicitDefEqProofs [go_sem, hjl]; (repeat refine And.intro (by first | decide +kernel | omega | kernel_rfl) ?_); (try decide +kernel)
      refine ⟨j + 1, ?_⟩; (repeat' apply And.intro) <;> first | omega | (exact h2.symm) | (exact zin_succ (zfl m.2 i) hjl rfl) | assumption | rfl
    · obtain rfl : j = row.length := by omega
      rw [hsc]
      simp -implicitDefEqProofs [go_sem]; (repeat refine And.intro (by first | decide +kernel | omega | kernel_rfl) ?_); (try decide +kernel)
      refine ⟨i + 1, ?_⟩; (repeat' apply And.intro) <;> first | omega | assumption | rfl
  · obtain rfl : i = m.2.length := by omega
    have e : zfl m.2 m.2.length = m.2.flatten := by unfold zfl; rw [List.take_length]
    rw [e]
    obtain ⟨F, hF⟩ : ∃ F, F = m.2.flatten := ⟨_, rfl⟩
    rw [← hF] at hv ⊢
    simp -implicitDefEqProofs [go_sem]; (repeat refine And.intro (by first | decide +kernel | omega | kernel_rfl) ?_); (try decide +kernel)
    refine .inl ⟨_, hv, ?_⟩; simp -implicitDefEqProofs [go_sem]; (repeat refine And.intro (by first | decide +kernel | omega | kernel_rfl) ?_); (try decide +kernel)
/-- one column's numbers, as they lie -/
def zcol (rows : List (List ZR)) (r k : Nat) : List ZR := (List.range r).map fun i => (((rows[i]?).getD [])[k]?).getD (false, [])
theorem zcol_len (rows : List (List ZR)) (r k : Nat) : (zcol rows r k).length = r := by simp [zcol]
theorem zcol_val {m : MR} {K : Nat} (h : Gm K m) {k : Nat} (hk : k < colsOf m.2) : valR (ofR m.1) (zcol m.2 m.2.length k) = colQ (valM m) m.2.length k := by
  unfold valR zcol colQ
  rw [List.map_map]
  refine List.map_congr_left fun i hi => ?_
  have hi := List.mem_range.1 hi
  obtain ⟨h2, _, e, _⟩ := h.ent hi hk
  unfold valM
  rw [entQ_fracs, e]
  simp [hi, h2]
/-- all columns as vectors -/
def colV (m : MR) : List VR := (List.range (colsOf m.2)).map fun k => vnm (colQ (valM m) m.2.length k)
set_option maxRecDepth 100000 in
set_option maxHeartbeats 2000000 in
theorem columns_p (m : MR) {K : Nat} (h : Gm K m) : PCall Tryz.prog 15 [.d (md m)] (.tup [.d (.sl (ves (colV m))), .d (.v (.int .i64 0))]) := by
  have hs := sizem_p m h.d h.g h.check
  have hnr := h.g.nr
  have hcl := colsOf_lt h.g
  refine pcall_of hmo Tryz.func15 rfl (by kernel_rfl) (by simp [Tryz.ntmps15]) ?_; simp -implicitDefEqProofs [go_sem, Tryz.ntmps15]; (repeat refine And.intro (by first | decide +kernel | omega | kernel_rfl) ?_); (try decide +kernel)
  refine .inl ⟨_, hs, ?_⟩; simp -implicitDefEqProofs [go_sem]; (repeat refine And.intro (by first | decide +kernel | omega | kernel_rfl) ?_); (try decide +kernel)
  have hcv : (colV m).length = colsOf m.2 := by simp [colV]
  refine loop_rule [.arr 7 32 3] (fun (k : Nat) => ⟨49, [(1, .pr 0 0 0 0), (4, intP .i64 (m.2.length : Int)), (7, .sr 68 k), (20, intP .i64 (colsOf m.2 : Int)), (21, intP .i64 (k : Int))],
    [(68, .arr ⟨32, 3, k, false, ves ((colV m).take k)⟩), (0, .box (mbx m))], 1000⟩)
    (fun k => k ≤ colsOf m.2) (fun k => colsOf m.2 - k) 0 (Nat.zero_le _) (by simp) (by simp -implicitDefEqProofs [go_sem, ves]) (fun k hk => ?_)
  by_cases hkl : k < colsOf m.2
  · obtain ⟨C, hC⟩ : ∃ C, C = zcol m.2 m.2.length k := ⟨_, rfl⟩
    have hCl : C.length = m.2.length := by rw [hC]; exact zcol_len _ _ _
    have hCz : ∀ z ∈ C, Rz z := fun z hz => by
      rw [hC] at hz
      obtain ⟨i, hi, rfl⟩ := List.mem_map.1 hz
      have hi := List.mem_range.1 hi
      obtain ⟨h2, h3, _⟩ := h.ent hi hkl
      simp [hi, h2]; exact h3
    have hv := vec_p m.1 C h.d h.ne hCz (by omega)
    rw [hC, zcol_val h hkl, ← hC] at hv
    have hsn := take_snoc (e := vel (vnm (colQ (valM m) m.2.length k))) vel (colV m) (k := k) (by rw [hcv]; exact hkl) (by simp [colV])
    generalize vnm (colQ (valM m) m.2.length k) = X at *
    simp -implicitDefEqProofs [go_sem, hkl]; (repeat refine And.intro (by first | decide +kernel | omega | kernel_rfl) ?_); (try decide +kernel)
    refine loop_rule [.arr 9 25 2] (fun (i : Nat) => ⟨49, [(1, .pr 0 0 0 0), (4, intP .i64 (m.2.length : Int)), (7, .sr 68 k), (8, intP .i64 (k : Int)), (9, .sr 1024 i), (20, intP .i64 (colsOf m.2 : Int)), (21, intP .i64 (k : Int)), (24, intP .i64 (m.2.length : Int)), (25, intP .i64 (i : Int))],
      [(1024, .arr ⟨25, 2, i, false, zes (C.take i)⟩), (68, .arr ⟨32, 3, k, false, ves ((colV m).take k)⟩), (0, .box (mbx m))], 2000⟩)
      (fun i => i ≤ m.2.length) (fun i => m.2.length - i) 0 (Nat.zero_le _) (by simp) (by simp -implicitDefEqProofs [go_sem, zes]) (fun i hi => ?_)
    by_cases hil : i < m.2.length
    · obtain ⟨h2, h3, _⟩ := h.ent hil hkl
      have hsn2 := take_snoc (e := zel m.2[i][k]) zel C (k := i) (by omega) (by
        have : C[i]'(by omega) = m.2[i][k] := by subst hC; simp [zcol, hil, h2]
        rw [this])
      simp -implicitDefEqProofs [go_sem, hil, h2]; (repeat refine And.intro (by first | decide +kernel | omega | kernel_rfl) ?_); (try decide +kernel)
      refine ⟨i + 1, ?_⟩; (repeat' apply And.intro) <;> first | omega | (exact hsn2) | assumption | rfl
    · obtain rfl : i = m.2.length := by omega
      rw [take_all hCl]
      simp -implicitDefEqProofs [go_sem]; (repeat refine And.intro (by first | decide +kernel | omega | kernel_rfl) ?_); (try decide +kernel)
      refine .inl ⟨_, hv, ?_⟩; simp -implicitDefEqProofs [go_sem]; (repeat refine And.intro (by first | decide +kernel | omega | kernel_rfl) ?_); (try decide +kernel)
      refine ⟨k + 1, ?_⟩; (repeat' apply And.intro) <;> first | omega | (exact hsn) | assumption | rfl
  · obtain rfl : k = colsOf m.2 := by omega
    rw [take_all hcv]
    simp -implicitDefEqProofs [go_sem]; (repeat refine And.intro (by first | decide +kernel | omega | kernel_rfl) ?_); (try decide +kernel)
end Go.Mt
/-
  A part of the proof.
-/
set_option linter.unusedSimpArgs false
set_option linter.unusedVariables false
namespace Go.Mt
open Go Go.Pm Go.Proofs
def vg (l : List VR) (k : Nat) : VR := (l[k]?).getD ((false, []), [])
theorem vg_get {l : List VR} {k : Nat} (h : k < l.length) : vg l k = l[k] := by unfold vg; rw [List.getElem?_eq_getElem h]; rfl
/-- a matrix of these columns -/
def fcQ (l : List VR) (n : Nat) : List (List Rat) := tabQ (fun i k => ((valV (vg l k))[i]?).getD 0) n l.length
/-- columns of n numbers -/
structure Vn (l : List VR) (n : Nat) : Prop where
  d : ∀ v ∈ l, Rz v.1 ∧ ofR v.1 ≠ 0 ∧ v.1.2.length < 1048577
  z : ∀ v ∈ l, ∀ z ∈ v.2, Rz z ∧ z.2.length < 1048577
  w : ∀ v ∈ l, v.2.length = n
  n : n ≤ 1000
  c : l.length < 1048577
  D : nl (lcms (l.map fun v => ofR v.1)) < 1048578
def dens (l : List VR) : List Int := l.map fun v => ofR v.1
theorem dens_pos {l : List VR} {n : Nat} (h : Vn l n) : 0 < lcms (dens l) := lcms_pos _ fun z hz => by
  obtain ⟨v, hv, rfl⟩ := List.mem_map.1 hz
  exact (h.d v hv).2.1
theorem den_dvd {l : List VR} {k : Nat} (hk : k < l.length) : ofR l[k].1 ∣ ((lcms (dens l) : Nat) : Int) := by
  have : (ofR l[k].1).natAbs ∣ lcms (dens l) := mem_lcms (List.mem_map.2 ⟨l[k], List.getElem_mem hk, rfl⟩)
  exact Int.natAbs_dvd.1 (Int.natCast_dvd_natCast.2 this)
/-- one entry over the common denominator -/
def fcZ (l : List VR) (i k : Nat) : Int := (((vg l k).2.map ofR)[i]?).getD 0 * (((lcms (dens l) : Nat) : Int) / ofR (vg l k).1)
set_option maxRecDepth 100000 in
theorem fc1_p (l : List VR) {n : Nat} (h : Vn l n) (i k : Nat) (hi : i < n) (hk : k < l.length) :
    PCall Tryz.prog 109 [.d (.v (.int .i64 (i : Int))), .d (.v (.int .i64 (k : Int))), .bw [.v (.bool (nrm ((lcms (dens l) : Nat) : Int)).1), .sl (les (nrm ((lcms (dens l) : Nat) : Int)).2)], .bw [.sl (ves l)]] (.one (.d (zd (nrm (fcZ l i k))))) := by
  have hv := List.getElem_mem hk
  obtain ⟨d1, d2, d3⟩ := h.d _ hv
  have hil : i < l[k].2.length := by rw [h.w _ hv]; exact hi
  obtain ⟨z1, z2⟩ := h.z _ hv _ (List.getElem_mem hil)
  have hD := h.D
  have hD : nl (lcms (dens l)) < 1048578 := hD
  have hdv := den_dvd hk
  have he := exact_p (nrm ((lcms (dens l) : Nat) : Int)) l[k].1 (rz (by rw [zl_nat]; omega)) d1 d2 (by rw [ofR_nrm]; exact hdv)
  rw [ofR_nrm] at he
  have hql := zl_div hdv
  rw [zl_nat] at hql
  have hm := mul_p l[k].2[i] (nrm (((lcms (dens l) : Nat) : Int) / ofR l[k].1)) z1 (rz (by omega))
  rw [ofR_nrm] at hm
  have e : fcZ l i k = ofR l[k].2[i] * (((lcms (dens l) : Nat) : Int) / ofR l[k].1) := by
    unfold fcZ; rw [vg_get hk]; simp [hil]
  rw [← e] at hm
  generalize fcZ l i k = F at *
  generalize ((lcms (dens l) : Nat) : Int) / ofR l[k].1 = Q at *
  generalize ((lcms (dens l) : Nat) : Int) = DD at *
  refine pcall_of hmo Tryz.func109 rfl (by kernel_rfl) (by simp [Tryz.ntmps109]) ?_; simp -implicitDefEqProofs [go_sem, Tryz.ntmps109]; (repeat refine And.intro (by first | decide +kernel | omega | kernel_rfl) ?_); (try decide +kernel)
  simp -implicitDefEqProofs [go_sem, hk]; (repeat refine And.intro (by first | decide +kernel | omega | kernel_rfl) ?_); (try decide +kernel)
  refine .inl ⟨_, he, ?_⟩; simp -implicitDefEqProofs [go_sem, hk]; (repeat refine And.intro (by first | decide +kernel | omega | kernel_rfl) ?_); (try decide +kernel)
  simp -implicitDefEqProofs [go_sem, hk, hil]; (repeat refine And.intro (by first | decide +kernel | omega | kernel_rfl) ?_); (try decide +kernel)
  refine .inl ⟨_, hm, ?_⟩; simp -implicitDefEqProofs [go_sem]; (repeat refine And.intro (by first | decide +kernel | omega | kernel_rfl) ?_); (try decide +kernel)
theorem fc_val (l : List VR) {n : Nat} (h : Vn l n) : fracs ((lcms (dens l) : Nat) : Int) (tableZ (fcZ l) n l.length) = fcQ l n := by
  rw [fracs_table]
  refine tabQ_congr fun i k hi hk => ?_
  have hv := List.getElem_mem hk
  have hil : i < l[k].2.length := by rw [h.w _ hv]; exact hi
  have hp := dens_pos h
  obtain ⟨e, he⟩ := den_dvd hk
  have h0 := (h.d _ hv).2.1
  have e0 : e ≠ 0 := fun h => by rw [h, Int.mul_zero] at he; omega
  unfold fcZ valV valR
  rw [vg_get hk, he, Int.mul_ediv_cancel_left _ h0, ratv_left _ _ e0]
  simp [hil]
def szE (n : Int) : Int := if n < 0 then 1 else if 1000 < n then 4 else 0
def lnE (l : List VR) (n : Int) : Int := if l.all (fun v => decide ((v.2.length : Int) = n)) = true then 0 else 2
def fcE (l : List VR) (n : Int) : Int := orE (vchE l) (orE (szE n) (lnE l n))
def fcX (l : List VR) (n : Int) : MR := if fcE l n = 0 then nm (fcQ l n.toNat) else zM
/-- vectors that came in -/
structure Iv (l : List VR) : Prop where
  d : ∀ v ∈ l, Rz v.1 ∧ v.1.2.length < 1048577
  z : ∀ v ∈ l, ∀ z ∈ v.2, Rz z ∧ z.2.length < 1048577
  w : ∀ v ∈ l, v.2.length < 1048577
  c : l.length < 1048577
  D : (l.map fun v => v.1.2.length).sum < 1048577
theorem nl_lcms (zs : List Int) : nl (lcms zs) ≤ 1 + (zs.map zl).sum := by
  have key : ∀ (zs : List Int) (m : Nat), nl (zs.foldl (fun (m : Nat) z => Nat.lcm m z.natAbs) m) ≤ nl m + (zs.map zl).sum := by
    intro zs
    induction zs with
    | nil => intro m; simp
    | cons z zs ih =>
      intro m
      have h1 := ih (Nat.lcm m z.natAbs)
      have h2 := nl_lcm_le m z.natAbs
      rw [List.foldl_cons, List.map_cons, List.sum_cons]
      unfold zl at *
      omega
  have := key zs 1
  have h1 : nl 1 = 1 := by decide
  unfold lcms
  omega
theorem lcms_take (zs : List Int) (k : Nat) : nl (lcms (zs.take k)) ≤ 1 + (zs.map zl).sum := by
  refine Nat.le_trans (nl_lcms _) ?_
  have : (zs.map zl).sum = ((zs.take k).map zl).sum + ((zs.drop k).map zl).sum := by
    conv => lhs; rw [← List.take_append_drop k zs, List.map_append, List.sum_append_nat]
  omega
theorem Iv.dl {l : List VR} (h : Iv l) : ((dens l).map zl).sum < 1048577 := by
  have key : ∀ l : List VR, (∀ v ∈ l, Rz v.1) → ((dens l).map zl).sum ≤ (l.map fun v => v.1.2.length).sum := by
    intro l
    induction l with
    | nil => intro _; simp [dens]
    | cons v l ih =>
      intro h
      have h1 := ih (fun v hv => h v (List.mem_cons_of_mem _ hv))
      have h2 := zl_ofR (h v (List.mem_cons_self ..))
      unfold dens at *
      simp only [List.map_cons, List.sum_cons]
      omega
  exact Nat.lt_of_le_of_lt (key l fun v hv => (h.d v hv).1) h.D
theorem dens_take (l : List VR) {k : Nat} (hk : k < l.length) : dens (l.take (k + 1)) = dens (l.take k) ++ [ofR l[k].1] := by
  unfold dens; rw [List.take_add_one, List.getElem?_eq_getElem hk, List.map_append]; rfl
theorem lcm2_p (zs : List Int) (p : ZR) (hp : Rz p) (h0 : ofR p ≠ 0) (hz : 0 < lcms zs) (hl : nl (lcms (zs ++ [ofR p])) < 1099511627776) (hl2 : nl (lcms zs) < 1099511627776) :
    PCall Tryz.prog 106 [.d (.sl [[.v (.bool (nrm ((lcms zs : Nat) : Int)).1), .sl (les (nrm ((lcms zs : Nat) : Int)).2)], [.v (.bool p.1), .sl (les p.2)]])] (.one (.d (zd (nrm ((lcms (zs ++ [ofR p]) : Nat) : Int))))) := by
  have e : lcms ([nrm ((lcms zs : Nat) : Int), p].map ofR) = lcms (zs ++ [ofR p]) := by
    rw [lcms_snoc]
    simp only [List.map_cons, List.map_nil, ofR_nrm]
    simp [lcms]
  have h := lcml_p [nrm ((lcms zs : Nat) : Int), p] (by
    intro q hq
    simp only [List.mem_cons, List.not_mem_nil, or_false] at hq
    rcases hq with rfl | rfl
    · exact ⟨rz (by rw [zl_nat]; exact hl2), by rw [ofR_nrm]; omega⟩
    · exact ⟨hp, h0⟩) (by simp) (by simp) (by rw [e]; exact hl)
  rw [e] at h
  exact h
set_option maxRecDepth 100000 in
set_option maxHeartbeats 4000000 in
theorem fromCols_p (l : List VR) (n : Int) (h : Iv l) : PCall Tryz.prog 21 [.d (.v (.int .i64 n)), .d (.sl (ves l))] (.tup [.d (md (fcX l n)), .d (.v (.int .i64 (fcE l n)))]) := by
  have hvc := vecCheck_p l (fun v hv => (h.d v hv).1) (by have := h.c; omega)
  have hof := of_p 1 (by decide) (by decide)
  have hc := h.c
  by_cases h1 : vchE l = 0
  · rw [h1] at hvc
    have hne : ∀ v ∈ l, ofR v.1 ≠ 0 := fun v hv hz => by
      by_cases ha : l.all (fun v => decide (ofR v.1 ≠ 0)) = true
      · have := List.all_eq_true.1 ha v hv
        simp [hz] at this
      · rw [vchE, if_neg ha] at h1; exact absurd h1 (by decide)
    by_cases h2 : n < 0
    · have e : fcE l n = 1 := by unfold fcE szE; rw [h1, orE_zero, if_pos h2]; rfl
      have ex : fcX l n = zM := by unfold fcX; rw [e]; rfl
      rw [e, ex]
      refine pcall_of hmo Tryz.func21 rfl (by kernel_rfl) (by simp [Tryz.ntmps21]) ?_; simp -implicitDefEqProofs [go_sem, Tryz.ntmps21]; (repeat refine And.intro (by first | decide +kernel | omega | kernel_rfl) ?_); (try decide +kernel)
      refine .inl ⟨_, hvc, ?_⟩; simp -implicitDefEqProofs [go_sem, h2]; (repeat refine And.intro (by first | decide +kernel | omega | kernel_rfl) ?_); (try decide +kernel)
    · by_cases h3 : 1000 < n
      · have e : fcE l n = 4 := by unfold fcE szE; rw [h1, orE_zero, if_neg h2, if_pos h3]; rfl
        have ex : fcX l n = zM := by unfold fcX; rw [e]; rfl
        rw [e, ex]
        refine pcall_of hmo Tryz.func21 rfl (by kernel_rfl) (by simp [Tryz.ntmps21]) ?_; simp -implicitDefEqProofs [go_sem, Tryz.ntmps21]; (repeat refine And.intro (by first | decide +kernel | omega | kernel_rfl) ?_); (try decide +kernel)
        refine .inl ⟨_, hvc, ?_⟩; simp -implicitDefEqProofs [go_sem, h2, h3]; (repeat refine And.intro (by first | decide +kernel | omega | kernel_rfl) ?_); (try decide +kernel)
      · have e : fcE l n = lnE l n := by unfold fcE szE; rw [h1, orE_zero, if_neg h2, if_neg h3, orE_zero]
        obtain ⟨N, rfl⟩ : ∃ N : Nat, n = (N : Int) := ⟨n.toNat, by omega⟩
        refine pcall_of hmo Tryz.func21 rfl (by kernel_rfl) (by simp [Tryz.ntmps21]) ?_; simp -implicitDefEqProofs [go_sem, Tryz.ntmps21]; (repeat refine And.intro (by first | decide +kernel | omega | kernel_rfl) ?_); (try decide +kernel)
        refine .inl ⟨_, hvc, ?_⟩; simp -implicitDefEqProofs [go_sem, h2, h3]; (repeat refine And.intro (by first | decide +kernel | omega | kernel_rfl) ?_); (try decide +kernel)
        refine .inl ⟨_, hof, ?_⟩; simp -implicitDefEqProofs [go_sem]; (repeat refine And.intro (by first | decide +kernel | omega | kernel_rfl) ?_); (try decide +kernel)
        refine loop_rule [] (fun (k : Nat) => ⟨50, [(0, intP .i64 (N : Int)), (3, .pr 0 0 0 0), (4, .pr 4 0 0 0), (7, .pr 60 0 0 0), (25, .d (.sl (ves l))), (26, intP .i64 (l.length : Int)), (27, intP .i64 (k : Int))],
            [(60, .box [.d (.v (.bool (nrm ((lcms (dens (l.take k)) : Nat) : Int)).1)), .d (.sl (les (nrm ((lcms (dens (l.take k)) : Nat) : Int)).2))]), (4, .box [.d (.v (.bool false)), .nl, .nl]), (0, .box [.d (.sl (ves l))])], 1000⟩)
          (fun k => k ≤ l.length ∧ ∀ j (hj : j < l.length), j < k → l[j].2.length = N) (fun k => l.length - k) 0 ⟨Nat.zero_le _, fun j hj h => absurd h (by omega)⟩ (by simp) (by simp -implicitDefEqProofs [go_sem, dens, lcms]) (fun k ⟨hk, hw⟩ => ?_)
        have hdl := h.dl
        by_cases hkl : k < l.length
        · have hv := List.getElem_mem hkl
          by_cases hwk : l[k].2.length = N
          · have ht1 := lcms_take (dens l) k
            have ht2 := lcms_take (dens l) (k + 1)
            have et : ∀ j, (dens l).take j = dens (l.take j) := fun j => by unfold dens; rw [List.map_take]
            rw [et] at ht1 ht2
            have hp : 0 < lcms (dens (l.take k)) := lcms_pos _ fun z hz => by
              obtain ⟨v, hv, rfl⟩ := List.mem_map.1 hz
              exact hne v (List.mem_of_mem_take hv)
            have hlc := lcm2_p (dens (l.take k)) l[k].1 (h.d _ hv).1 (hne _ hv) hp (by rw [← dens_take l hkl]; omega) (by omega)
            rw [← dens_take l hkl] at hlc
            simp -implicitDefEqProofs [go_sem, hkl, hwk]; (repeat refine And.intro (by first | decide +kernel | omega | kernel_rfl) ?_); (try decide +kernel)
            refine .inl ⟨_, hlc, ?_⟩; simp -implicitDefEqProofs [go_sem]; (repeat refine And.intro (by first | decide +kernel | omega | kernel_rfl) ?_); (try decide +kernel)
            refine ⟨k + 1, ⟨by omega, fun j hj hjk => ?_⟩, by omega, by omega, rfl, rfl⟩
            by_cases hjk2 : j < k
            · exact hw j hj hjk2
            · obtain rfl : j = k := by omega
              exact hwk
          · have hz : ¬ ((l[k].2.length : Nat) : Int) = (N : Int) := by omega
            have e2 : lnE l N = 2 := if_neg (fun ha => hz (by simpa using List.all_eq_true.1 ha _ hv))
            have ex : fcX l N = zM := by unfold fcX; rw [e, e2]; rfl
            rw [e, e2, ex]
            simp -implicitDefEqProofs [go_sem, hkl, hwk, hz]; (repeat refine And.intro (by first | decide +kernel | omega | kernel_rfl) ?_); (try decide +kernel)
        · obtain rfl : k = l.length := by omega
          rw [List.take_length]
          have e2 : lnE l N = 0 := if_pos (List.all_eq_true.2 fun v hv => by
            obtain ⟨j, hj, rfl⟩ := List.getElem_of_mem hv
            exact decide_eq_true (by rw [hw j hj hj]))
          have ex : fcX l N = nm (fcQ l N) := by unfold fcX; rw [e, e2]; rfl
          have hV : Vn l N := ⟨fun v hv => ⟨(h.d v hv).1, hne v hv, (h.d v hv).2⟩, h.z, fun v hv => by
            obtain ⟨j, hj, rfl⟩ := List.getElem_of_mem hv
            exact hw j hj hj, by omega, h.c, by
            have := nl_lcms (dens l)
            show nl (lcms (dens l)) < _
            omega⟩
          have hD : nl (lcms (dens l)) < 1048578 := hV.D
          have hp := dens_pos hV
          have htb := table_p (fcZ l) N l.length 109 [.bw [.v (.bool (nrm ((lcms (dens l) : Nat) : Int)).1), .sl (les (nrm ((lcms (dens l) : Nat) : Int)).2)], .bw [.sl (ves l)]] (caps_bw2 _ _) (by omega) (by omega) (fun i k hi hk => fc1_p l hV i k hi hk)
          obtain ⟨g1, g2, g3⟩ := grw_tab (K := 2097155) (f := fcZ l) (r := N) (c := l.length) (by decide) (by omega) (by omega) (fun i k hi hk => by
            have hv := List.getElem_mem hk
            have hil : i < l[k].2.length := by rw [hV.w _ hv]; exact hi
            obtain ⟨z1, z2⟩ := h.z _ hv _ (List.getElem_mem hil)
            have q1 := zl_ofR z1
            have q2 := zl_div (den_dvd hk)
            rw [zl_nat] at q2
            have q3 := zl_mul (ofR l[k].2[i]) (((lcms (dens l) : Nat) : Int) / ofR l[k].1)
            have q4 : fcZ l i k = ofR l[k].2[i] * (((lcms (dens l) : Nat) : Int) / ofR l[k].1) := by unfold fcZ; rw [vg_get hk]; simp [hil]
            rw [q4]
            omega)
          have hmd := made_q (nrm ((lcms (dens l) : Nat) : Int)) (ztab (fcZ l) N l.length) (rz (by rw [zl_nat]; omega)) (by rw [ofR_nrm]; omega) g1 g2
          rw [ofR_nrm, zz_tab, fc_val l hV] at hmd
          rw [e, e2, ex]
          simp -implicitDefEqProofs [go_sem]; (repeat refine And.intro (by first | decide +kernel | omega | kernel_rfl) ?_); (try decide +kernel)
          refine .inl ⟨_, htb, ?_⟩; simp -implicitDefEqProofs [go_sem]; (repeat refine And.intro (by first | decide +kernel | omega | kernel_rfl) ?_); (try decide +kernel)
          refine .inl ⟨_, hmd, ?_⟩; simp -implicitDefEqProofs [go_sem]; (repeat refine And.intro (by first | decide +kernel | omega | kernel_rfl) ?_); (try decide +kernel)
  · have e : fcE l n = vchE l := by unfold fcE; rw [orE_ne _ h1]
    have ex : fcX l n = zM := by unfold fcX; rw [e, if_neg h1]
    rw [e, ex]
    refine pcall_of hmo Tryz.func21 rfl (by kernel_rfl) (by simp [Tryz.ntmps21]) ?_; simp -implicitDefEqProofs [go_sem, Tryz.ntmps21]; (repeat refine And.intro (by first | decide +kernel | omega | kernel_rfl) ?_); (try decide +kernel)
    refine .inl ⟨_, hvc, ?_⟩; simp -implicitDefEqProofs [go_sem, h1]; (repeat refine And.intro (by first | decide +kernel | omega | kernel_rfl) ?_); (try decide +kernel)
end Go.Mt
/-
  A part of the proof.
-/
set_option linter.unusedSimpArgs false
set_option linter.unusedVariables false
namespace Go.Mt
open Go Go.Pm Go.Proofs
theorem vec11_p (qs : List Rat) (hq : ∀ q ∈ qs, ql q < 8589934592) (hn : qs.length < 549755813888) (hD : nl (comDen qs) < 8589934592) : PCall Tryz.prog 102 [.d (.sl (qes (qs.map nq)))] (.one (.d (vd (vnm qs)))) := by
  have hc := common5_p qs hq hn hD
  have hc : PCall Tryz.prog 146 [.d (.sl (qes (qs.map nq)))] (.tup [.d (zd (nrm (comDen qs : Int))), .d (.sl (zes (vns qs)))]) := hc
  have ev : vd (vnm qs) = .agg [.v (.bool (nrm (comDen qs : Int)).1), .sl (les (nrm (comDen qs : Int)).2), .sl (zes (vns qs))] := rfl
  rw [ev]
  generalize vns qs = R at *
  generalize comDen qs = D at *
  generalize qs.map nq = L at *
  refine pcall_of hmo Tryz.func102 rfl (by kernel_rfl) (by simp [Tryz.ntmps102]) ?_; simp -implicitDefEqProofs [go_sem, Tryz.ntmps102]; (repeat refine And.intro (by first | decide +kernel | omega | kernel_rfl) ?_); (try decide +kernel)
  refine .inl ⟨_, hc, ?_⟩; simp -implicitDefEqProofs [go_sem]; (repeat refine And.intro (by first | decide +kernel | omega | kernel_rfl) ?_); (try decide +kernel)
theorem vecMay11_p (v : VR) (h : Rz v.1) : PCall Tryz.prog 22 [.d (vd v)] (.one (.d (.v (.bool (decide (ofR v.1 ≠ 0)))))) := by
  have hs := sign3_p v.1 h
  by_cases h0 : ofR v.1 = 0
  · rw [h0] at hs
    rw [show decide (ofR v.1 ≠ 0) = false by simp [h0]]
    refine pcall_of hmo Tryz.func22 rfl (by kernel_rfl) (by simp [Tryz.ntmps22]) ?_; simp -implicitDefEqProofs [go_sem, Tryz.ntmps22]; (repeat refine And.intro (by first | decide +kernel | omega | kernel_rfl) ?_); (try decide +kernel)
    refine .inl ⟨_, hs, ?_⟩; simp -implicitDefEqProofs [go_sem]; (repeat refine And.intro (by first | decide +kernel | omega | kernel_rfl) ?_); (try decide +kernel)
  · have hsg : ¬ (ofR v.1).sign = 0 := fun h => h0 (Int.sign_eq_zero_iff_zero.1 h)
    rw [show decide (ofR v.1 ≠ 0) = true by simp [h0]]
    refine pcall_of hmo Tryz.func22 rfl (by kernel_rfl) (by simp [Tryz.ntmps22]) ?_; simp -implicitDefEqProofs [go_sem, Tryz.ntmps22]; (repeat refine And.intro (by first | decide +kernel | omega | kernel_rfl) ?_); (try decide +kernel)
    refine .inl ⟨_, hs, ?_⟩; simp -implicitDefEqProofs [go_sem, hsg]; (repeat refine And.intro (by first | decide +kernel | omega | kernel_rfl) ?_); (try decide +kernel)
theorem sameVec11_p (a b : VR) (ha : Lz a.1) (hb : Lz b.1) (ha2 : ∀ z ∈ a.2, Lz z) (hb2 : ∀ z ∈ b.2, Lz z) (hal : a.2.length < 1099511627776) (hbl : b.2.length < 1099511627776) :
    PCall Tryz.prog 19 [.d (vd a), .d (vd b)] (.one (.d (.v (.bool (decide (a = b)))))) := by
  have h1 := same3_p a.1 b.1 ha hb
  have h2 := sameAll3_p a.2 b.2 ha2 hb2 hal hbl
  by_cases e1 : a.1 = b.1
  · rw [decide_eq_true e1] at h1
    have e : decide (a = b) = decide (a.2 = b.2) := by
      by_cases e2 : a.2 = b.2 <;> simp [Prod.ext_iff, e1, e2]
    rw [e]
    refine pcall_of hmo Tryz.func19 rfl (by kernel_rfl) (by simp [Tryz.ntmps19]) ?_; simp -implicitDefEqProofs [go_sem, Tryz.ntmps19]; (repeat refine And.intro (by first | decide +kernel | omega | kernel_rfl) ?_); (try decide +kernel)
    refine .inl ⟨_, h1, ?_⟩; simp -implicitDefEqProofs [go_sem]; (repeat refine And.intro (by first | decide +kernel | omega | kernel_rfl) ?_); (try decide +kernel)
    refine .inl ⟨_, h2, ?_⟩; simp -implicitDefEqProofs [go_sem]; (repeat refine And.intro (by first | decide +kernel | omega | kernel_rfl) ?_); (try decide +kernel)
  · rw [decide_eq_false e1] at h1
    have e : decide (a = b) = false := by simp [Prod.ext_iff, e1]
    rw [e]
    refine pcall_of hmo Tryz.func19 rfl (by kernel_rfl) (by simp [Tryz.ntmps19]) ?_; simp -implicitDefEqProofs [go_sem, Tryz.ntmps19]; (repeat refine And.intro (by first | decide +kernel | omega | kernel_rfl) ?_); (try decide +kernel)
    refine .inl ⟨_, h1, ?_⟩; simp -implicitDefEqProofs [go_sem]; (repeat refine And.intro (by first | decide +kernel | omega | kernel_rfl) ?_); (try decide +kernel)
/-- a vector that may be -/
structure Lv (v : VR) : Prop where
  d : Rz v.1
  ne : ofR v.1 ≠ 0
  ld : v.1.2.length < 8589934592
  z : ∀ z ∈ v.2, Rz z ∧ z.2.length < 8589934592
  n : v.2.length < 549755813888
theorem valV_len (v : VR) : (valV v).length = v.2.length := valR_len _ _
theorem entries11_p (v : VR) (h : Lv v) : PCall Tryz.prog 92 [.d (vd v)] (.one (.d (.sl (qes ((valV v).map nq))))) := by
  obtain ⟨l, hl⟩ : ∃ l, l = (valV v).map nq := ⟨_, rfl⟩
  have hll : l.length = v.2.length := by rw [hl, List.length_map, valV_len]
  have hn := h.n
  rw [← hl]
  refine pcall_of hmo Tryz.func92 rfl (by kernel_rfl) (by simp [Tryz.ntmps92]) ?_; simp -implicitDefEqProofs [go_sem, Tryz.ntmps92]; (repeat refine And.intro (by first | decide +kernel | omega | kernel_rfl) ?_); (try decide +kernel)
  refine loop_rule [] (fun (k : Nat) => ⟨27, [(1, .pr 0 0 0 0), (3, .sr 20 0), (11, .d (.sl (zes v.2))), (12, intP .i64 (v.2.length : Int)), (13, intP .i64 (k : Int))],
      [(20, .arr ⟨72, 4, 0, false, qfil l k⟩), (0, .box [.d (.v (.bool v.1.1)), .d (.sl (les v.1.2)), .d (.sl (zes v.2))])], 2000⟩)
    (fun k => k ≤ v.2.length) (fun k => v.2.length - k) 0 (Nat.zero_le _) (by simp) (by simp -implicitDefEqProofs [go_sem, qfil, hll]) (fun k hk => ?_)
  have hzl : (qfil l k).length = v.2.length := by unfold qfil; rw [← hll, ← qes_len l]; exact fill_len (qes l) _ (by rw [qes_len]; omega)
  by_cases hkl : k < v.2.length
  · obtain ⟨z1, z2⟩ := h.z _ (List.getElem_mem hkl)
    have hmk := make5_p v.2[k] v.1 z1 h.d (by omega) (by have := h.ld; omega) h.ne
    have hg : (qfil l k)[k]? = some [.v (.bool false), .sl [], .v (.bool false), .sl []] := by unfold qfil; rw [← qes_len l]; exact fill_get (qes l) _ (by rw [qes_len]; omega)
    have hlk : l[k]? = some (nq (ratv (ofR v.2[k]) (ofR v.1))) := by rw [hl]; unfold valV valR; simp [hkl]
    have hst : (qfil l k).set k (qel (nq (ratv (ofR v.2[k]) (ofR v.1)))) = qfil l (k + 1) := fill_x (qes l) _ _ (qes_len l) (by unfold qes; rw [List.getElem?_map, hlk]; rfl)
    generalize ratv (ofR v.2[k]) (ofR v.1) = Q at *
    simp -implicitDefEqProofs [go_sem, hkl]; (repeat refine And.intro (by first | decide +kernel | omega | kernel_rfl) ?_); (try decide +kernel)
    refine .inl ⟨_, hmk, ?_⟩; simp -implicitDefEqProofs [go_sem, hzl, hg]; (repeat refine And.intro (by first | decide +kernel | omega | kernel_rfl) ?_); (try decide +kernel)
    refine ⟨k + 1, ?_⟩; (repeat' apply And.intro) <;> first | omega | (exact hst) | assumption | rfl
  · obtain rfl : k = v.2.length := by omega
    have e : qfil l v.2.length = qes l := by unfold qfil; rw [← hll, ← qes_len l]; exact fill_end (qes l) _
    simp -implicitDefEqProofs [go_sem, e]; (repeat refine And.intro (by first | decide +kernel | omega | kernel_rfl) ?_); (try decide +kernel)
theorem valM_lt {m : MR} (h : Gl m) : ∀ r ∈ valM m, ∀ q ∈ r, ql q < 8589934592 := fun r hr q hq => by
  rw [valM_rows] at hr
  obtain ⟨r0, h1, rfl⟩ := List.mem_map.1 hr
  obtain ⟨z, h2, rfl⟩ := List.mem_map.1 hq
  have h3 := ql_ratv (ofR z) (ofR m.1) h.ne
  have := zl_ofR (h.g.rz r0 h1 z h2)
  have := zl_ofR h.d
  have := h.lz r0 h1 z h2
  have := h.ld
  omega
theorem valM_com {m : MR} (h : Gl m) (l : List Rat) (hl : ∀ q ∈ l, q ∈ (valM m).flatten) : nl (comDen l) < 8589934592 := by
  have h1 : comDen l ∣ (ofR m.1).natAbs := comDen_dvd _ _ fun q hq => by
    obtain ⟨r, hr, hq⟩ := List.mem_flatten.1 (hl q hq)
    rw [valM_rows] at hr
    obtain ⟨r0, h1, rfl⟩ := List.mem_map.1 hr
    obtain ⟨z, h2, rfl⟩ := List.mem_map.1 hq
    exact ratv_den_dvd _ _ h.ne
  have h2 := nl_mono (Nat.le_of_dvd (Int.natAbs_pos.2 h.ne) h1)
  have h3 := zl_ofR h.d
  have h4 := h.ld
  unfold zl at h3
  omega
theorem flat11_p (m : MR) (h : Gl m) (hfl : m.2.flatten.length < 549755813888) (hvf : (valM m).flatten.length < 549755813888) : PCall Tryz.prog 20 [.d (md m)] (.one (.d (vd (vnm (valM m).flatten)))) := by
  have hr := (rows11_t m h).sto_d
  rw [tqs_d] at hr
  have hv := vec11_p (valM m).flatten (fun q hq => by obtain ⟨r, h1, h2⟩ := List.mem_flatten.1 hq; exact valM_lt h r h1 q h2) hvf (valM_com h _ fun q hq => hq)
  have hnr := h.g.nr
  have hvl := valM_len m
  generalize hV : valM m = V at *
  obtain ⟨F, hF⟩ : ∃ F, F = V.flatten := ⟨_, rfl⟩
  have hall := flt_all V
  rw [← hF] at hv hall ⊢
  refine pcall_of hmo Tryz.func20 rfl (by kernel_rfl) (by simp [Tryz.ntmps20]) ?_; simp -implicitDefEqProofs [go_sem, Tryz.ntmps20]; (repeat refine And.intro (by first | decide +kernel | omega | kernel_rfl) ?_); (try decide +kernel)
  refine .inl ⟨_, hr, ?_⟩; simp -implicitDefEqProofs [go_sem]; (repeat refine And.intro (by first | decide +kernel | omega | kernel_rfl) ?_); (try decide +kernel)
  refine loop_rule [.arr 3 72 4] (fun (i : Nat) => ⟨19, [(2, .pr 4 0 0 0), (3, .sr 28 i), (7, .d (.sl (qrs V))), (8, intP .i64 (V.length : Int)), (9, intP .i64 (i : Int))], [(28, .arr ⟨72, 4, i, false, qes ((flt V i).map nq)⟩), (4, .box [.d (.v (.bool false)), .nl, .nl])], 1000⟩)
    (fun i => i ≤ V.length) (fun i => V.length - i) 0 (Nat.zero_le _) (by simp) (by simp -implicitDefEqProofs [go_sem, flt_zero, qes]) (fun i hi => ?_)
  by_cases hil : i < V.length
  · have hle := flt_le hil
    have hsn : qes ((flt V i).map nq) ++ qes (V[i].map nq) = qes ((flt V (i + 1)).map nq) := by
      rw [← flt_snoc hil]; simp [qes]
    simp -implicitDefEqProofs [go_sem, hil]; (repeat refine And.intro (by first | decide +kernel | omega | kernel_rfl) ?_); (try decide +kernel)
    refine ⟨i + 1, ?_⟩; (repeat' apply And.intro) <;> first | omega | (exact hsn) | assumption | rfl
  · obtain rfl : i = V.length := by omega
    simp -implicitDefEqProofs [go_sem, hall]; (repeat refine And.intro (by first | decide +kernel | omega | kernel_rfl) ?_); (try decide +kernel)
    refine .inl ⟨_, hv, ?_⟩; simp -implicitDefEqProofs [go_sem]; (repeat refine And.intro (by first | decide +kernel | omega | kernel_rfl) ?_); (try decide +kernel)
end Go.Mt
/-
  A part of the proof.
-/
set_option linter.unusedSimpArgs false
set_option linter.unusedVariables false
namespace Go.Mt
open Go Go.Pm Go.Proofs
set_option maxRecDepth 100000 in
set_option maxHeartbeats 2000000 in
theorem columns11_p (m : MR) {K : Nat} (h : Gl m) (hm : Gm K m) : PCall Tryz.prog 18 [.d (md m)] (.one (.d (.sl (ves (colV m))))) := by
  have hr := (rows11_t m h).sto_d
  rw [tqs_d] at hr
  have hsz := size11_p m h.g
  have hnr := h.g.nr
  have hcl := colsOf_lt h.g
  have hvl := valM_len m
  have hwv := valM_row hm
  have hcv : (colV m).length = colsOf m.2 := by simp [colV]
  have hcol : ∀ k, k < colsOf m.2 → ∀ q ∈ colQ (valM m) m.2.length k, q ∈ (valM m).flatten := fun k hk q hq => by
    obtain ⟨i, hi, rfl⟩ := List.mem_map.1 hq
    have hi := List.mem_range.1 hi
    have h1 : i < (valM m).length := by omega
    have h2 : k < (valM m)[i].length := by rw [hwv]; exact hk
    rw [entQ_get h1 h2]
    exact List.mem_flatten.2 ⟨_, List.getElem_mem h1, List.getElem_mem h2⟩
  have hvec : ∀ k, k < colsOf m.2 → PCall Tryz.prog 102 [.d (.sl (qes ((colQ (valM m) m.2.length k).map nq)))] (.one (.d (vd (vnm (colQ (valM m) m.2.length k))))) := fun k hk =>
    vec11_p _ (fun q hq => by obtain ⟨r, h1, h2⟩ := List.mem_flatten.1 (hcol k hk q hq); exact valM_lt h r h1 q h2) (by simp [colQ]; exact hnr) (valM_com h _ (hcol k hk))
  have hsnk : ∀ k (hk : k < colsOf m.2), ves ((colV m).take k) ++ [vel (vnm (colQ (valM m) m.2.length k))] = ves ((colV m).take (k + 1)) := fun k hk => take_snoc vel (colV m) (by rw [hcv]; exact hk) (by simp [colV])
  obtain ⟨V, hV⟩ : ∃ V, V = valM m := ⟨_, rfl⟩
  rw [← hV] at hr hvl hwv hvec hsnk
  refine pcall_of hmo Tryz.func18 rfl (by kernel_rfl) (by simp [Tryz.ntmps18]) ?_; simp -implicitDefEqProofs [go_sem, Tryz.ntmps18]; (repeat refine And.intro (by first | decide +kernel | omega | kernel_rfl) ?_); (try decide +kernel)
  refine .inl ⟨_, hsz, ?_⟩; simp -implicitDefEqProofs [go_sem]; (repeat refine And.intro (by first | decide +kernel | omega | kernel_rfl) ?_); (try decide +kernel)
  refine .inl ⟨_, hr, ?_⟩; simp -implicitDefEqProofs [go_sem, hvl]; (repeat refine And.intro (by first | decide +kernel | omega | kernel_rfl) ?_); (try decide +kernel)
  refine loop_rule [.arr 3 32 3] (fun (k : Nat) => ⟨47, [(3, .sr 56 k), (5, intP .i64 (colsOf m.2 : Int)), (6, .d (.sl (qrs V))), (7, intP .i64 (k : Int))], [(56, .arr ⟨32, 3, k, false, ves ((colV m).take k)⟩)], 1000⟩)
    (fun k => k ≤ colsOf m.2) (fun k => colsOf m.2 - k) 0 (Nat.zero_le _) (by simp) (by simp -implicitDefEqProofs [go_sem, ves]) (fun k hk => ?_)
  by_cases hkl : k < colsOf m.2
  · have hv := hvec k hkl
    have hsn := hsnk k hkl
    obtain ⟨l, hl⟩ : ∃ l, l = (colQ V m.2.length k).map nq := ⟨_, rfl⟩
    have hll : l.length = m.2.length := by rw [hl]; simp [colQ]
    rw [← hl] at hv
    generalize vnm (colQ V m.2.length k) = X at *
    simp -implicitDefEqProofs [go_sem, hkl, hvl]; (repeat refine And.intro (by first | decide +kernel | omega | kernel_rfl) ?_); (try decide +kernel)
    refine loop_rule [] (fun (i : Nat) => ⟨47, [(3, .sr 56 k), (5, intP .i64 (colsOf m.2 : Int)), (6, .d (.sl (qrs V))), (7, intP .i64 (k : Int)), (8, .sr 1020 0), (26, intP .i64 (m.2.length : Int)), (27, intP .i64 (i : Int))],
      [(1020, .arr ⟨72, 4, 0, false, qfil l i⟩), (56, .arr ⟨32, 3, k, false, ves ((colV m).take k)⟩)], 2000⟩)
      (fun i => i ≤ m.2.length) (fun i => m.2.length - i) 0 (Nat.zero_le _) (by simp) (by simp -implicitDefEqProofs [go_sem, qfil, hll]) (fun i hi => ?_)
    have hzl : (qfil l i).length = m.2.length := by unfold qfil; rw [← hll, ← qes_len l]; exact fill_len (qes l) _ (by rw [qes_len]; omega)
    by_cases hil : i < m.2.length
    · have h1 : i < V.length := by omega
      have h2 : k < V[i].length := by rw [hwv]; exact hkl
      have hg : (qfil l i)[i]? = some [.v (.bool false), .sl [], .v (.bool false), .sl []] := by unfold qfil; rw [← qes_len l]; exact fill_get (qes l) _ (by rw [qes_len]; omega)
      have hlk : l[i]? = some (nq V[i][k]) := by rw [hl]; unfold colQ; simp [hil]; rw [entQ_get h1 h2]
      have hst : (qfil l i).set i (qel (nq V[i][k])) = qfil l (i + 1) := fill_x (qes l) _ _ (qes_len l) (by unfold qes; rw [List.getElem?_map, hlk]; rfl)
      have hg2 := fun h => (List.getElem_eq_iff (h := h)).2 hg
      simp -implicitDefEqProofs [go_sem, hil, h1, h2, hzl, hg, hg2]; (repeat refine And.intro (by first | decide +kernel | omega | kernel_rfl) ?_); (try decide +kernel)
      refine ⟨i + 1, ?_⟩; (repeat' apply And.intro) <;> first | omega | (exact hst) | assumption | rfl
    · obtain rfl : i = m.2.length := by omega
      have e : qfil l m.2.length = qes l := by unfold qfil; rw [← hll, ← qes_len l]; exact fill_end (qes l) _
      simp -implicitDefEqProofs [go_sem, e]; (repeat refine And.intro (by first | decide +kernel | omega | kernel_rfl) ?_); (try decide +kernel)
      refine .inl ⟨_, hv, ?_⟩; simp -implicitDefEqProofs [go_sem]; (repeat refine And.intro (by first | decide +kernel | omega | kernel_rfl) ?_); (try decide +kernel)
      refine ⟨k + 1, ?_⟩; (repeat' apply And.intro) <;> first | omega | (exact hsn) | assumption | rfl
  · obtain rfl : k = colsOf m.2 := by omega
    rw [take_all hcv]
    simp -implicitDefEqProofs [go_sem]; (repeat refine And.intro (by first | decide +kernel | omega | kernel_rfl) ?_); (try decide +kernel)
/-- what is done so far, in the order of the columns -/
def mixC (new old : Nat → Nat → Rat) (k i : Nat) : Nat → Nat → Rat := fun i' k' => if k' < k ∨ k' = k ∧ i' < i then new i' k' else old i' k'
theorem mixC_zero (new old : Nat → Nat → Rat) : mixC new old 0 0 = old := by
  funext i k; unfold mixC; rw [if_neg (by omega)]
theorem mixC_succ (new old : Nat → Nat → Rat) (i k : Nat) : upd2 (mixC new old k i) i k (new i k) = mixC new old k (i + 1) := by
  funext i' k'; unfold upd2 mixC
  by_cases h : i' = i ∧ k' = k
  · rw [if_pos h, if_pos (by omega), h.1, h.2]
  · rw [if_neg h]
    by_cases h2 : k' < k ∨ k' = k ∧ i' < i
    · rw [if_pos h2, if_pos (by omega)]
    · rw [if_neg h2, if_neg (by omega)]
theorem mixC_col {new old : Nat → Nat → Rat} {k c r : Nat} : tabQ (mixC new old k r) r c = tabQ (mixC new old (k + 1) 0) r c := tabQ_congr fun i' k' hi _ => by
  unfold mixC
  by_cases h2 : k' < k ∨ k' = k ∧ i' < r
  · rw [if_pos h2, if_pos (by omega)]
  · rw [if_neg h2, if_neg (by omega)]
theorem mixC_all {new old : Nat → Nat → Rat} {r c : Nat} : tabQ (mixC new old c 0) r c = tabQ new r c := tabQ_congr fun i' k' _ hk => by
  unfold mixC; rw [if_pos (by omega)]
theorem fcQ_frac (l : List VR) {n : Nat} (h : Vn l n) : (∀ q ∈ (fcQ l n).flatten, ql q < 8589934592) ∧ nl (comDen (fcQ l n).flatten) < 8589934592 := by
  have hD := h.D
  have hD : nl (lcms (dens l)) < 1048578 := hD
  have hp := dens_pos h
  refine ⟨fun q hq => ?_, ?_⟩
  · obtain ⟨r, h1, h2⟩ := List.mem_flatten.1 hq
    obtain ⟨i, hi, rfl⟩ := List.mem_map.1 h1
    obtain ⟨k, hk, rfl⟩ := List.mem_map.1 h2
    have hk := List.mem_range.1 hk
    have hi := List.mem_range.1 hi
    have hv := List.getElem_mem hk
    have hil : i < l[k].2.length := by rw [h.w _ hv]; exact hi
    obtain ⟨z1, z2⟩ := h.z _ hv _ (List.getElem_mem hil)
    obtain ⟨d1, d2, d3⟩ := h.d _ hv
    have e : ((valV (vg l k))[i]?).getD 0 = ratv (ofR l[k].2[i]) (ofR l[k].1) := by rw [vg_get hk]; unfold valV valR; simp [hil]
    show ql (((valV (vg l k))[i]?).getD 0) < _
    rw [e]
    have := ql_ratv (ofR l[k].2[i]) (ofR l[k].1) d2
    have := zl_ofR z1
    have := zl_ofR d1
    omega
  · rw [← fc_val l h]
    have := nrmD_nl ((lcms (dens l) : Nat) : Int) (by omega) (tableZ (fcZ l) n l.length) _ (Nat.le_refl _)
    unfold nrmD at this
    rw [Int.natAbs_natCast] at this
    omega
set_option maxRecDepth 100000 in
set_option maxHeartbeats 4000000 in
theorem fromCols11_p (l : List VR) {n : Nat} (h : Vn l n) : PCall Tryz.prog 26 [.d (.v (.int .i64 (n : Int))), .d (.sl (ves l))] (.one (.d (md (nm (fcQ l n))))) := by
  have hn := h.n
  have hc := h.c
  have hfl := fill11_t n l.length (by omega) (by omega)
  have hcn : n * l.length < 549755813888 := by
    have := Nat.mul_le_mul hn (show l.length ≤ 1048577 by omega)
    omega
  obtain ⟨f1, f2⟩ := fcQ_frac l h
  have hfr := from11_p (fcQ l n) f1 (by unfold fcQ; rw [length_tabQ]; omega) (by unfold fcQ; rw [tabQ_flat]; exact hcn) f2
  have hol : ∀ F, (tabQ F n l.length).length = n := fun F => length_tabQ _ _ _
  have hol0 : (zeroQ n l.length).length = n := hol _
  obtain ⟨N, hN⟩ : ∃ N : Nat → Nat → Rat, N = fun i k => ((valV (vg l k))[i]?).getD 0 := ⟨_, rfl⟩
  refine pcall_of hmo Tryz.func26 rfl (by kernel_rfl) (by simp [Tryz.ntmps26]) ?_; simp -implicitDefEqProofs [go_sem, Tryz.ntmps26]; (repeat refine And.intro (by first | decide +kernel | omega | kernel_rfl) ?_); (try decide +kernel)
  refine .inl ⟨_, hfl, ?_⟩; simp -implicitDefEqProofs [go_sem, hol0]; (repeat refine And.intro (by first | decide +kernel | omega | kernel_rfl) ?_); (try decide +kernel)
  refine loop_rule [] (fun (k : Nat) => ⟨40, [(4, .pr 0 0 0 0), (5, .st 16 0), (14, .d (.sl (ves l))), (15, intP .i64 (l.length : Int)), (16, intP .i64 (k : Int))],
      [(16, .tab ⟨68, 72, 4, 0, false, List.range n, (tqs (tabQ (mixC N (fun _ _ => 0) k 0) n l.length)).map some⟩), (0, .box [.d (.v (.bool false)), .nl, .nl])], 1000⟩)
    (fun k => k ≤ l.length) (fun k => l.length - k) 0 (Nat.zero_le _) (by simp) (by simp -implicitDefEqProofs [go_sem, mixC_zero, zeroQ]) (fun k hk => ?_)
  by_cases hkl : k < l.length
  · have hv := List.getElem_mem hkl
    obtain ⟨d1, d2, d3⟩ := h.d _ hv
    have hwk := h.w _ hv
    have hen := entries11_p l[k] ⟨d1, d2, by omega, fun z hz => ⟨(h.z _ hv z hz).1, by have := (h.z _ hv z hz).2; omega⟩, by omega⟩
    have hvl : (valV l[k]).length = n := by rw [valV_len]; exact hwk
    obtain ⟨W, hW⟩ : ∃ W, W = valV l[k] := ⟨_, rfl⟩
    rw [← hW] at hen hvl
    simp -implicitDefEqProofs [go_sem, hkl]; (repeat refine And.intro (by first | decide +kernel | omega | kernel_rfl) ?_); (try decide +kernel)
    refine .inl ⟨_, hen, ?_⟩; simp -implicitDefEqProofs [go_sem, hvl, hkl]; (repeat refine And.intro (by first | decide +kernel | omega | kernel_rfl) ?_); (try decide +kernel)
    refine loop_rule [] (fun (i : Nat) => ⟨40, [(4, .pr 0 0 0 0), (5, .st 16 0), (6, intP .i64 (k : Int)), (14, .d (.sl (ves l))), (15, intP .i64 (l.length : Int)), (16, intP .i64 (k : Int)), (22, .d (.sl (qes (W.map nq)))), (23, intP .i64 (n : Int)), (24, intP .i64 (i : Int))],
        [(16, .tab ⟨68, 72, 4, 0, false, List.range n, (tqs (tabQ (mixC N (fun _ _ => 0) k i) n l.length)).map some⟩), (0, .box [.d (.v (.bool false)), .nl, .nl])], 2000⟩)
      (fun i => i ≤ n) (fun i => n - i) 0 (Nat.zero_le _) (by simp) (by simp -implicitDefEqProofs [go_sem, hvl]) (fun i hi => ?_)
    by_cases hil : i < n
    · have hiW : i < W.length := by omega
      have hNv : N i k = W[i] := by rw [hN]; show ((valV (vg l k))[i]?).getD 0 = _; rw [vg_get hkl, ← hW]; simp [hiW]
      have hrg : (List.range n)[i]? = some i := List.getElem?_range hil
      have hrow := tabR_get (mixC N (fun _ _ => 0) k i) (c := l.length) hil
      have hcell := trow_get (mixC N (fun _ _ => 0) k i) (i := i) hkl
      have hcel2 := fun h => (List.getElem_eq_iff (h := h)).2 hcell
      have hset := tabR_set (mixC N (fun _ _ => 0) k i) hil hkl (N i k)
      rw [mixC_succ, hNv] at hset
      have hER := elemR_t hrg hrow
      have hRA := rowAt_t hrow
      have hTl := trow_len (mixC N (fun _ _ => 0) k i) l.length i
      generalize mixC N (fun _ _ => 0) k i i k = Z at *
      simp -implicitDefEqProofs [go_sem, hil, hiW, hkl, hER, hRA, hcell, hcel2, hTl, hset]; (repeat refine And.intro (by first | decide +kernel | omega | kernel_rfl) ?_); (try decide +kernel)
      refine ⟨i + 1, ?_⟩; (repeat' apply And.intro) <;> first | omega | (exact hset) | assumption | rfl
    · obtain rfl : i = n := by omega
      rw [mixC_col]
      simp -implicitDefEqProofs [go_sem]; (repeat refine And.intro (by first | decide +kernel | omega | kernel_rfl) ?_); (try decide +kernel)
      refine ⟨k + 1, ?_⟩; (repeat' apply And.intro) <;> first | omega | assumption | rfl
  · obtain rfl : k = l.length := by omega
    rw [mixC_all]
    have hfr : PCall Tryz.prog 63 [.d (.sl (qrs (tabQ N n l.length)))] (.one (.d (md (nm (fcQ l n))))) := by rw [hN]; exact hfr
    have hsl := fun el rel k ver fz out => sl_tqs (el := el) (rel := rel) (k := k) (ver := ver) (fz := fz) (out := out) (hol N)
    simp -implicitDefEqProofs [go_sem, hsl]; (repeat refine And.intro (by first | decide +kernel | omega | kernel_rfl) ?_); (try decide +kernel)
    refine .inl ⟨_, hfr, ?_⟩; simp -implicitDefEqProofs [go_sem, hsl]; (repeat refine And.intro (by first | decide +kernel | omega | kernel_rfl) ?_); (try decide +kernel)
end Go.Mt
