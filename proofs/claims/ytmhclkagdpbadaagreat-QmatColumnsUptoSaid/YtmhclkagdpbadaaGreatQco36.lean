/-
  A part of the proof.
-/
import Derived.Test.YtmhclkagdpbadaaGreatQco33
import Derived.Test.YtmhclkagdpbadaaGreatQco34
import Derived.Test.YtmhclkagdpbadaaGreatQco35
set_option linter.unusedVariables false
set_option linter.unusedSimpArgs false
set_option linter.unusedSimpArgs false
set_option linter.unusedVariables false
namespace Go.Mt
open Go Go.Pm Go.Proofs
/-- rows of fractions, each a memory of its own -/
def tqs (V : List (List Rat)) : List (List (List D)) := V.map fun qs => qes (qs.map nq)
@[go_sem] theorem tqs_len (V : List (List Rat)) : (tqs V).length = V.length := by simp [tqs]
theorem tqs_d (V : List (List Rat)) : ((tqs V).map fun es => [D.sl es]) = qrs V := by unfold tqs qrs; rw [List.map_map]; rfl
/-- a matrix that came in, or was made -/
structure Gl (m : MR) : Prop where
  d : Rz m.1
  ne : ofR m.1 ≠ 0
  g : Grw m.2
  ld : m.1.2.length < 8589934592
  lz : ∀ r ∈ m.2, ∀ z ∈ r, z.2.length < 8589934592
theorem check11_p (m : MR) (hd : Rz m.1) (h : Grw m.2) : PCall Tryz.prog 16 [.d (md m)] (.one (.d (.v (.int .i64 (checkE m))))) := by
  have hs := sign3_p m.1 hd
  have hnr := h.nr
  by_cases h0 : ofR m.1 = 0
  · have e : checkE m = 6 := by unfold checkE; rw [if_pos h0]
    rw [h0] at hs
    rw [e]
    refine pcall_of hmo Tryz.func16 rfl (by kernel_rfl) (by simp [Tryz.ntmps16]) ?_; simp -implicitDefEqProofs [go_sem, Tryz.ntmps16]; (repeat refine And.intro (by first | decide +kernel | omega | kernel_rfl) ?_); (try decide +kernel)
    refine .inl ⟨_, hs, ?_⟩; simp -implicitDefEqProofs [go_sem]; (repeat refine And.intro (by first | decide +kernel | omega | kernel_rfl) ?_); (try decide +kernel)
  · have hsg : ¬ (ofR m.1).sign = 0 := fun h => h0 (Int.sign_eq_zero_iff_zero.1 h)
    refine pcall_of hmo Tryz.func16 rfl (by kernel_rfl) (by simp [Tryz.ntmps16]) ?_; simp -implicitDefEqProofs [go_sem, Tryz.ntmps16]; (repeat refine And.intro (by first | decide +kernel | omega | kernel_rfl) ?_); (try decide +kernel)
    refine .inl ⟨_, hs, ?_⟩; simp -implicitDefEqProofs [go_sem, hsg]; (repeat refine And.intro (by first | decide +kernel | omega | kernel_rfl) ?_); (try decide +kernel)
    refine loop_rule [] (fun (k : Nat) => ⟨25, [(1, .pr 0 0 0 0), (10, .d (.sl (rws m.2))), (11, intP .i64 (m.2.length : Int)), (12, intP .i64 (k : Int))], [(0, .box (mbx m))], 1000⟩)
      (fun k => k ≤ m.2.length ∧ allK (fun r => decide (r.length = colsOf m.2)) m.2 k) (fun k => m.2.length - k) 0 ⟨Nat.zero_le _, allK_zero _ _⟩ (by simp) (by simp -implicitDefEqProofs [go_sem]) (fun k ⟨hk, ha⟩ => ?_)
    by_cases hkl : k < m.2.length
    · have hg0 : ∀ h : 0 < m.2.length, (m.2[0]'h).length = colsOf m.2 := fun h => colsOf_get h
      have h0l : 0 < m.2.length := by omega
      by_cases hx : m.2[k].length = colsOf m.2
      · simp -implicitDefEqProofs [go_sem, hkl, hg0, h0l, hx]; (repeat refine And.intro (by first | decide +kernel | omega | kernel_rfl) ?_); (try decide +kernel)
        exact ⟨k + 1, ⟨by omega, allK_succ hkl ha (by simp [hx])⟩, by omega, by omega⟩
      · have hz : ¬ ((m.2[k].length : Nat) : Int) = ((colsOf m.2 : Nat) : Int) := by omega
        have e : checkE m = 2 := by
          have : evenB m.2 = false := by
            unfold evenB; rw [List.all_eq_false]; exact ⟨m.2[k], List.getElem_mem hkl, by simp [hx]⟩
          unfold checkE; rw [if_neg h0, this]; rfl
        rw [e]
        simp -implicitDefEqProofs [go_sem, hkl, hg0, h0l, hx, hz]; (repeat refine And.intro (by first | decide +kernel | omega | kernel_rfl) ?_); (try decide +kernel)
    · obtain rfl : k = m.2.length := by omega
      have e : checkE m = 0 := by
        have : evenB m.2 = true := allK_all ha
        unfold checkE; rw [if_neg h0, if_pos this]
      rw [e]
      simp -implicitDefEqProofs [go_sem]; (repeat refine And.intro (by first | decide +kernel | omega | kernel_rfl) ?_); (try decide +kernel)
theorem size11_p (m : MR) (h : Grw m.2) : PCall Tryz.prog 38 [.d (md m)] (.tup [.d (.v (.int .i64 (m.2.length : Int))), .d (.v (.int .i64 (colsOf m.2 : Int)))]) := by
  by_cases h0 : m.2.length = 0
  · have e : m.2 = [] := List.eq_nil_of_length_eq_zero h0
    have e2 : colsOf m.2 = 0 := by rw [e]; rfl
    rw [e2, h0]
    refine pcall_of hmo Tryz.func38 rfl (by kernel_rfl) (by simp [Tryz.ntmps38]) ?_; simp -implicitDefEqProofs [go_sem, Tryz.ntmps38]; (repeat refine And.intro (by first | decide +kernel | omega | kernel_rfl) ?_); (try decide +kernel)
    simp -implicitDefEqProofs [go_sem, e]; (repeat refine And.intro (by first | decide +kernel | omega | kernel_rfl) ?_); (try decide +kernel)
  · have h0l : 0 < m.2.length := by omega
    have h0z : ¬ ((m.2.length : Nat) : Int) = 0 := by omega
    have hg0 : ∀ h : 0 < m.2.length, (m.2[0]'h).length = colsOf m.2 := fun h => colsOf_get h
    have h0n : ¬ m.2 = [] := fun h => h0 (by rw [h]; rfl)
    refine pcall_of hmo Tryz.func38 rfl (by kernel_rfl) (by simp [Tryz.ntmps38]) ?_; simp -implicitDefEqProofs [go_sem, Tryz.ntmps38]; (repeat refine And.intro (by first | decide +kernel | omega | kernel_rfl) ?_); (try decide +kernel)
    simp -implicitDefEqProofs [go_sem, h0n, h0, h0z, h0l, hg0]; (repeat refine And.intro (by first | decide +kernel | omega | kernel_rfl) ?_); (try decide +kernel)
theorem nodup_range (n : Nat) : (List.range n).Nodup := List.nodup_range
theorem row_range {α : Type} (l : List α) : (List.range l.length).map (fun r => ((l.map some)[r]?).getD none) = l.map some := by
  refine List.ext_getElem (by simp) fun i h1 h2 => ?_
  simp at h1
  simp [h1]
set_option maxHeartbeats 2000000 in
theorem rows11_t (m : MR) (h : Gl m) : PCall Tryz.prog 40 [.d (md m)] (.one (.sto 68 72 4 (tqs (valM m)))) := by
  have hnr := h.g.nr
  refine pcall_of hmo Tryz.func40 rfl (by kernel_rfl) (by simp [Tryz.ntmps40]) ?_; simp -implicitDefEqProofs [go_sem, Tryz.ntmps40]; (repeat refine And.intro (by first | decide +kernel | omega | kernel_rfl) ?_); (try decide +kernel)
  refine loop_rule [.tab 3 68 72 4] (fun (i : Nat) => ⟨40, [(1, .pr 0 0 0 0), (3, .st 28 i), (10, .d (.sl (rws m.2))), (11, intP .i64 (m.2.length : Int)), (12, intP .i64 (i : Int))],
    [(28, .tab ⟨68, 72, 4, i, false, List.range i, (tqs ((valM m).take i)).map some⟩), (0, .box (mbx m))], 1000⟩)
    (fun i => i ≤ m.2.length) (fun i => m.2.length - i) 0 (Nat.zero_le _) (by simp) (by simp -implicitDefEqProofs [go_sem, tqs]) (fun i hi => ?_)
  by_cases hil : i < m.2.length
  · obtain ⟨row, hrow⟩ : ∃ row, row = m.2[i] := ⟨_, rfl⟩
    have hrm : row ∈ m.2 := hrow ▸ List.getElem_mem hil
    have hrl := h.g.nc row hrm
    have hrl2 : m.2[i].length < 549755813888 := hrow ▸ hrl
    have hvi : (valM m)[i]'(by rw [valM_len]; exact hil) = valR (ofR m.1) row := by
      simp only [valM_rows, List.getElem_map, hrow]
    obtain ⟨l, hl⟩ : ∃ l, l = (valR (ofR m.1) row).map nq := ⟨_, rfl⟩
    have hll : l.length = row.length := by rw [hl]; simp [valR_len]
    simp -implicitDefEqProofs [go_sem, hil]; (repeat refine And.intro (by first | decide +kernel | omega | kernel_rfl) ?_); (try decide +kernel)
    rw [← hrow]
    refine loop_rule [] (fun (k : Nat) => ⟨40, [(1, .pr 0 0 0 0), (3, .st 28 i), (5, .d (.sl (zes row))), (6, .sr 1024 0), (10, .d (.sl (rws m.2))), (11, intP .i64 (m.2.length : Int)), (12, intP .i64 (i : Int)), (19, .d (.sl (zes row))), (20, intP .i64 (row.length : Int)), (21, intP .i64 (k : Int))],
      [(1024, .arr ⟨72, 4, 0, false, qfil l k⟩), (28, .tab ⟨68, 72, 4, i, false, List.range i, (tqs ((valM m).take i)).map some⟩), (0, .box (mbx m))], 2000⟩)
      (fun k => k ≤ row.length) (fun k => row.length - k) 0 (Nat.zero_le _) (by simp) (by simp -implicitDefEqProofs [go_sem, qfil, hll]) (fun k hk => ?_)
    have hzl : (qfil l k).length = row.length := by unfold qfil; rw [← hll, ← qes_len l]; exact fill_len (qes l) _ (by rw [qes_len]; omega)
    by_cases hkl : k < row.length
    · have hzm : row[k] ∈ row := List.getElem_mem hkl
      have hmk := make5_p row[k] m.1 (h.g.rz row hrm _ hzm) h.d (by have := h.lz row hrm _ hzm; omega) (by have := h.ld; omega) h.ne
      have hg : (qfil l k)[k]? = some [.v (.bool false), .sl [], .v (.bool false), .sl []] := by unfold qfil; rw [← qes_len l]; exact fill_get (qes l) _ (by rw [qes_len]; omega)
      have hlk : l[k]? = some (nq (ratv (ofR row[k]) (ofR m.1))) := by rw [hl]; unfold valR; simp [hkl]
      have hst : (qfil l k).set k (qel (nq (ratv (ofR row[k]) (ofR m.1)))) = qfil l (k + 1) := fill_x (qes l) _ _ (qes_len l) (by unfold qes; rw [List.getElem?_map, hlk]; rfl)
      generalize ratv (ofR row[k]) (ofR m.1) = Q at *
      simp -implicitDefEqProofs [go_sem, hkl]; (repeat refine And.intro (by first | decide +kernel | omega | kernel_rfl) ?_); (try decide +kernel)
      refine .inl ⟨_, hmk, ?_⟩; simp -implicitDefEqProofs [go_sem, hzl, hg]; (repeat refine And.intro (by first | decide +kernel | omega | kernel_rfl) ?_); (try decide +kernel)
      refine ⟨k + 1, ?_⟩; (repeat' apply And.intro) <;> first | omega | (exact hst) | assumption | rfl
    · obtain rfl : k = row.length := by omega
      have e : qfil l row.length = qes l := by unfold qfil; rw [← hll, ← qes_len l]; exact fill_end (qes l) _
      have hsn : (tqs ((valM m).take i)).map some ++ [some (qes l)] = (tqs ((valM m).take (i + 1))).map some := by
        have hvl : i < (valM m).length := by rw [valM_len]; exact hil
        rw [List.take_add_one, List.getElem?_eq_getElem hvl, hvi, tqs, tqs, List.map_append, List.map_append, hl]; rfl
      have hmn : min i m.2.length = i := Nat.min_eq_left (by omega)
      simp -implicitDefEqProofs [go_sem, e, hmn]; (repeat refine And.intro (by first | decide +kernel | omega | kernel_rfl) ?_); (try decide +kernel)
      refine ⟨i + 1, ?_⟩; (repeat' apply And.intro) <;> first | omega | (exact hsn) | (exact List.range_succ.symm) | assumption | rfl
  · obtain rfl : i = m.2.length := by omega
    rw [take_all (valM_len m)]
    simp -implicitDefEqProofs [go_sem]; (repeat refine And.intro (by first | decide +kernel | omega | kernel_rfl) ?_); (try decide +kernel)
    exact ⟨nodup_range _, by have := row_range (tqs (valM m)); rw [tqs_len, valM_len] at this; exact this⟩
end Go.Mt
/-
  A part of the proof.
-/
set_option linter.unusedSimpArgs false
set_option linter.unusedVariables false
namespace Go.Mt
open Go Go.Pm Go.Proofs
@[go_sem] theorem qes_four (l : List QR) : (∀ e ∈ qes l, e.length = 4) = True := eq_true fun e he => by obtain ⟨x, _, rfl⟩ := List.mem_map.1 he; rfl
@[go_sem] theorem zes_two (l : List ZR) : (∀ e ∈ zes l, e.length = 2) = True := eq_true fun e he => by obtain ⟨x, _, rfl⟩ := List.mem_map.1 he; rfl
theorem flt_snoc {V : List (List Rat)} {i : Nat} (hi : i < V.length) : flt V i ++ V[i] = flt V (i + 1) := by
  rw [← flt_succ hi]; unfold fltIn; rw [List.take_length]
theorem flt_le {V : List (List Rat)} {i : Nat} (hi : i < V.length) : (flt V i).length + V[i].length ≤ V.flatten.length := by
  have := fltIn_le (V := V) hi (Nat.le_refl _)
  unfold fltIn at this
  rw [List.length_append, List.take_length] at this
  exact this
theorem flt_part {α : Type} (f : Rat → α) {V : List (List Rat)} {i : Nat} (hi : i < V.length) : ((V.flatten.map f).drop (flt V i).length).take V[i].length = V[i].map f := by
  have e : V.flatten = (flt V i ++ V[i]) ++ (V.drop (i + 1)).flatten := by
    conv => lhs; rw [← List.take_append_drop i V, List.flatten_append, List.drop_eq_getElem_cons hi, List.flatten_cons]
    rw [List.append_assoc]; rfl
  conv => lhs; rw [e]
  rw [List.append_assoc, List.map_append, List.map_append, List.drop_left' (by simp), List.take_left' (by simp)]
set_option maxRecDepth 100000 in
set_option maxHeartbeats 2000000 in
theorem from11_p (qss : List (List Rat)) (hq : ∀ q ∈ qss.flatten, ql q < 8589934592) (hn : qss.length < 549755813888) (hfl : qss.flatten.length < 549755813888) (hD : nl (comDen qss.flatten) < 8589934592) :
    PCall Tryz.prog 63 [.d (.sl (qrs qss))] (.one (.d (md (nm qss)))) := by
  have hc := common5_p qss.flatten hq hfl hD
  obtain ⟨D, hDd⟩ : ∃ D, D = comDen qss.flatten := ⟨_, rfl⟩
  obtain ⟨N, hN⟩ : ∃ N : List ZR, N = qss.flatten.map fun q => nrm (comNum D q) := ⟨_, rfl⟩
  rw [← hDd, ← hN] at hc
  have hz0 : ∀ i (hi : i < qss.length), ((zes N).drop (flt qss i).length).take qss[i].length = zes (qss[i].map fun q => nrm (comNum D q)) := fun i hi => by
    unfold zes; rw [← List.map_drop, ← List.map_take, hN, flt_part _ hi]
  have hNl : N.length = qss.flatten.length := by rw [hN, List.length_map]
  obtain ⟨F, hF⟩ : ∃ F, F = qss.flatten := ⟨_, rfl⟩
  have hall := flt_all qss
  rw [← hF] at hc hall
  have hnm : nm qss = (nrm (D : Int), qss.map fun r => r.map fun q => nrm (comNum D q)) := by
    unfold nm nrmZ nrmD; rw [← hDd, List.map_map]
    congr 1
    exact List.map_congr_left fun r _ => by simp [Function.comp]
  rw [hnm]
  refine pcall_of hmo Tryz.func63 rfl (by kernel_rfl) (by simp [Tryz.ntmps63]) ?_; simp -implicitDefEqProofs [go_sem, Tryz.ntmps63]; (repeat refine And.intro (by first | decide +kernel | omega | kernel_rfl) ?_); (try decide +kernel)
  refine loop_rule [.arr 3 72 4] (fun (i : Nat) => ⟨57, [(0, .d (.sl (qrs qss))), (2, .pr 0 0 0 0), (3, .sr 20 i), (12, .d (.sl (qrs qss))), (13, intP .i64 (qss.length : Int)), (14, intP .i64 (i : Int))],
      [(20, .arr ⟨72, 4, i, false, qes ((flt qss i).map nq)⟩), (0, .box [.d (.v (.bool false)), .nl, .nl])], 1000⟩)
    (fun i => i ≤ qss.length) (fun i => qss.length - i) 0 (Nat.zero_le _) (by simp) (by simp -implicitDefEqProofs [go_sem, qes, flt]) (fun i hi => ?_)
  by_cases hil : i < qss.length
  · have hle := flt_le hil
    have hsn : qes ((flt qss i).map nq) ++ qes (qss[i].map nq) = qes ((flt qss (i + 1)).map nq) := by
      rw [← flt_snoc hil]; simp [qes]
    simp -implicitDefEqProofs [go_sem, hil]; (repeat refine And.intro (by first | decide +kernel | omega | kernel_rfl) ?_); (try decide +kernel)
    refine ⟨i + 1, ?_⟩; (repeat' apply And.intro) <;> first | omega | (exact hsn) | assumption | rfl
  · obtain rfl : i = qss.length := by omega
    simp -implicitDefEqProofs [go_sem, hall]; (repeat refine And.intro (by first | decide +kernel | omega | kernel_rfl) ?_); (try decide +kernel)
    refine .inl ⟨_, hc, ?_⟩; simp -implicitDefEqProofs [go_sem]; (repeat refine And.intro (by first | decide +kernel | omega | kernel_rfl) ?_); (try decide +kernel)
    refine loop_rule [.arrB 1044 2 30 1] (fun (i : Nat) => ⟨57, [(2, .pr 0 0 0 0), (7, .d (.sl (zes N))), (8, .pr 1044 0 0 0), (9, intP .i64 ((flt qss i).length : Int)), (29, .d (.sl (qrs qss))), (30, intP .i64 (qss.length : Int)), (31, intP .i64 (i : Int))],
        [(1044, .box [.d (.v (.bool (nrm (D : Int)).1)), .d (.sl (les (nrm (D : Int)).2)), .sr 1068 i]), (1068, .arr ⟨30, 1, i, false, rws ((qss.map fun r => r.map fun q => nrm (comNum D q)).take i)⟩), (0, .box [.d (.v (.bool false)), .nl, .nl])], 5000⟩)
      (fun i => i ≤ qss.length) (fun i => qss.length - i) 0 (Nat.zero_le _) (by simp) (by simp -implicitDefEqProofs [go_sem, rws, flt]) (fun i hi => ?_)
    by_cases hil : i < qss.length
    · have hle := flt_le hil
      have hz := hz0 i hil
      have hle2 : ((flt qss i).length : Int) + (qss[i].length : Int) ≤ (N.length : Int) := by omega
      have hsn := take_snoc (e := [.sl (zes (qss[i].map fun q => nrm (comNum D q)))]) rel (qss.map fun r => r.map fun q => nrm (comNum D q)) (k := i) (by simpa using hil) (by simp [rel])
      have hfs : (flt qss i).length + qss[i].length = (flt qss (i + 1)).length := by rw [← flt_snoc hil, List.length_append]
      have ht : (((flt qss i).length : Int) + (qss[i].length : Int)).toNat - (flt qss i).length = qss[i].length := by omega
      simp -implicitDefEqProofs [go_sem, hil, hle2]; (repeat refine And.intro (by first | decide +kernel | omega | kernel_rfl) ?_); (try decide +kernel)
      rw [ht, hz]
      refine ⟨i + 1, ?_⟩; (repeat' apply And.intro) <;> first | omega | (exact hsn) | assumption | rfl
    · obtain rfl : i = qss.length := by omega
      rw [take_all (show (qss.map fun r => r.map fun q => nrm (comNum D q)).length = qss.length by simp)]
      simp -implicitDefEqProofs [go_sem]; (repeat refine And.intro (by first | decide +kernel | omega | kernel_rfl) ?_); (try decide +kernel)
end Go.Mt
/-
  A part of the proof.
-/
set_option linter.unusedSimpArgs false
set_option linter.unusedVariables false
namespace Go.Mt
open Go Go.Pm Go.Proofs
def Lz (p : ZR) : Prop := p.2.length < 1099511627776
theorem same11_p (a b : MR) (ha : Lz a.1) (hb : Lz b.1) (ha2 : ∀ r ∈ a.2, ∀ z ∈ r, Lz z) (hb2 : ∀ r ∈ b.2, ∀ z ∈ r, Lz z) (hal : ∀ r ∈ a.2, r.length < 1099511627776) (hbl : ∀ r ∈ b.2, r.length < 1099511627776) (han : a.2.length < 1099511627776) (hbn : b.2.length < 1099511627776) :
    PCall Tryz.prog 54 [.d (md a), .d (md b)] (.one (.d (.v (.bool (decide (a = b)))))) := by
  have h1 := same3_p a.1 b.1 ha hb
  by_cases e1 : a.1 = b.1
  · rw [decide_eq_true e1] at h1
    by_cases hl : a.2.length = b.2.length
    · refine pcall_of hmo Tryz.func54 rfl (by kernel_rfl) (by simp [Tryz.ntmps54]) ?_; simp -implicitDefEqProofs [go_sem, Tryz.ntmps54]; (repeat refine And.intro (by first | decide +kernel | omega | kernel_rfl) ?_); (try decide +kernel)
      refine .inl ⟨_, h1, ?_⟩; simp -implicitDefEqProofs [go_sem, hl]; (repeat refine And.intro (by first | decide +kernel | omega | kernel_rfl) ?_); (try decide +kernel)
      refine loop_rule [] (fun (k : Nat) => ⟨40, [(2, .pr 0 0 0 0), (3, .pr 4 0 0 0), (4, .d (.v (.bool false))), (23, intP .i64 (b.2.length : Int)), (24, intP .i64 (k : Int))], [(0, .box (mbx a)), (4, .box (mbx b))], 1000⟩)
        (fun k => k ≤ b.2.length ∧ a.2.take k = b.2.take k) (fun k => b.2.length - k) 0 ⟨Nat.zero_le _, by simp⟩ (by simp) (by simp -implicitDefEqProofs [go_sem]) (fun k ⟨hk, he⟩ => ?_)
      by_cases hkl : k < b.2.length
      · have hkl2 : k < a.2.length := by omega
        have hs := sameAll3_p a.2[k] b.2[k] (ha2 _ (List.getElem_mem _)) (hb2 _ (List.getElem_mem _)) (hal _ (List.getElem_mem _)) (hbl _ (List.getElem_mem _))
        by_cases hx : a.2[k] = b.2[k]
        · have h2 : a.2.take (k + 1) = b.2.take (k + 1) := by
            rw [List.take_add_one, List.take_add_one, he, List.getElem?_eq_getElem hkl, List.getElem?_eq_getElem hkl2, hx]
          rw [decide_eq_true hx] at hs
          simp -implicitDefEqProofs [go_sem, hkl, hkl2]; (repeat refine And.intro (by first | decide +kernel | omega | kernel_rfl) ?_); (try decide +kernel)
          refine .inl ⟨_, hs, ?_⟩; simp -implicitDefEqProofs [go_sem, hkl, hkl2]; (repeat refine And.intro (by first | decide +kernel | omega | kernel_rfl) ?_); (try decide +kernel)
          refine ⟨k + 1, ?_⟩; (repeat' apply And.intro) <;> first | omega | assumption | rfl
        · have hne : ¬ a = b := fun e => hx (by subst e; rfl)
          have e2 : decide (a = b) = false := decide_eq_false hne
          rw [e2]
          rw [decide_eq_false hx] at hs
          simp -implicitDefEqProofs [go_sem, hkl, hkl2]; (repeat refine And.intro (by first | decide +kernel | omega | kernel_rfl) ?_); (try decide +kernel)
          refine .inl ⟨_, hs, ?_⟩; simp -implicitDefEqProofs [go_sem, hkl, hkl2]; (repeat refine And.intro (by first | decide +kernel | omega | kernel_rfl) ?_); (try decide +kernel)
      · obtain rfl : k = b.2.length := by omega
        have e : a.2 = b.2 := by rw [take_all hl, take_all rfl] at he; exact he
        have e2 : decide (a = b) = true := decide_eq_true (Prod.ext e1 e)
        rw [e2]
        simp -implicitDefEqProofs [go_sem]; (repeat refine And.intro (by first | decide +kernel | omega | kernel_rfl) ?_); (try decide +kernel)
    · have hz : ¬ ((a.2.length : Nat) : Int) = ((b.2.length : Nat) : Int) := by omega
      have hne : ¬ a = b := fun e => hl (by rw [e])
      have e2 : decide (a = b) = false := decide_eq_false hne
      rw [e2]
      refine pcall_of hmo Tryz.func54 rfl (by kernel_rfl) (by simp [Tryz.ntmps54]) ?_; simp -implicitDefEqProofs [go_sem, Tryz.ntmps54]; (repeat refine And.intro (by first | decide +kernel | omega | kernel_rfl) ?_); (try decide +kernel)
      refine .inl ⟨_, h1, ?_⟩; simp -implicitDefEqProofs [go_sem, hl, hz]; (repeat refine And.intro (by first | decide +kernel | omega | kernel_rfl) ?_); (try decide +kernel)
  · have hne : ¬ a = b := fun e => e1 (by rw [e])
    have e2 : decide (a = b) = false := decide_eq_false hne
    rw [e2]
    rw [decide_eq_false e1] at h1
    refine pcall_of hmo Tryz.func54 rfl (by kernel_rfl) (by simp [Tryz.ntmps54]) ?_; simp -implicitDefEqProofs [go_sem, Tryz.ntmps54]; (repeat refine And.intro (by first | decide +kernel | omega | kernel_rfl) ?_); (try decide +kernel)
    refine .inl ⟨_, h1, ?_⟩; simp -implicitDefEqProofs [go_sem]; (repeat refine And.intro (by first | decide +kernel | omega | kernel_rfl) ?_); (try decide +kernel)
set_option maxHeartbeats 1000000 in
theorem fill11_t (r c : Nat) (hr : r < 1099511627) (hc : c < 1099511627) : PCall Tryz.prog 112 [.d (.v (.int .i64 (r : Int))), .d (.v (.int .i64 (c : Int)))] (.one (.sto 68 72 4 (tqs (zeroQ r c)))) := by
  have hof := of5_p 0 (by decide) (by decide)
  have hof : PCall Tryz.prog 130 [.d (.v (.int .i64 0))] (.one (.d (qd (nq 0)))) := hof
  obtain ⟨l, hl⟩ : ∃ l : List QR, l = List.replicate c (nq 0) := ⟨_, rfl⟩
  have hll : l.length = c := by rw [hl]; simp
  have hz : ∀ k, k ≤ r → (tqs ((zeroQ r c).take k)).map some = List.replicate k (some (qes l)) := fun k hk => by
    unfold zeroQ tabQ tqs
    rw [← List.map_take, List.map_map, List.map_map]
    refine List.ext_getElem (by simp; omega) fun i h1 h2 => ?_
    simp only [List.getElem_map, List.getElem_take, List.getElem_range, List.getElem_replicate, Function.comp, hl, List.map_map]
    congr 2
    show (List.range c).map (fun _ => nq 0) = _
    rw [List.map_const', List.length_range]
  refine pcall_of hmo Tryz.func112 rfl (by kernel_rfl) (by simp [Tryz.ntmps112]) ?_; simp -implicitDefEqProofs [go_sem, Tryz.ntmps112]; (repeat refine And.intro (by first | decide +kernel | omega | kernel_rfl) ?_); (try decide +kernel)
  refine loop_rule [.tab 5 68 72 4] (fun (i : Nat) => ⟨31, [(0, intP .i64 (r : Int)), (1, intP .i64 (c : Int)), (5, .st 12 i), (6, intP .i64 (i : Int))],
    [(12, .tab ⟨68, 72, 4, i, false, List.range i, List.replicate i (some (qes l))⟩)], 1000⟩)
    (fun i => i ≤ r) (fun i => r - i) 0 (Nat.zero_le _) (by simp) (by simp -implicitDefEqProofs [go_sem]) (fun i hi => ?_)
  by_cases hil : i < r
  · simp -implicitDefEqProofs [go_sem, hil]; (repeat refine And.intro (by first | decide +kernel | omega | kernel_rfl) ?_); (try decide +kernel)
    refine loop_rule [] (fun (k : Nat) => ⟨31, [(0, intP .i64 (r : Int)), (1, intP .i64 (c : Int)), (5, .st 12 i), (6, intP .i64 (i : Int)), (7, .sr 1016 0), (17, intP .i64 (c : Int)), (18, intP .i64 (k : Int))],
      [(1016, .arr ⟨72, 4, 0, false, qfil l k⟩), (12, .tab ⟨68, 72, 4, i, false, List.range i, List.replicate i (some (qes l))⟩)], 2000⟩)
      (fun k => k ≤ c) (fun k => c - k) 0 (Nat.zero_le _) (by simp) (by simp -implicitDefEqProofs [go_sem, qfil, hll]) (fun k hk => ?_)
    have hzl : (qfil l k).length = c := by unfold qfil; rw [← hll, ← qes_len l]; exact fill_len (qes l) _ (by rw [qes_len]; omega)
    by_cases hkl : k < c
    · have hg : (qfil l k)[k]? = some [.v (.bool false), .sl [], .v (.bool false), .sl []] := by unfold qfil; rw [← qes_len l]; exact fill_get (qes l) _ (by rw [qes_len]; omega)
      have hlk : l[k]? = some (nq 0) := by rw [hl]; simp [hkl]
      have hst : (qfil l k).set k (qel (nq 0)) = qfil l (k + 1) := fill_x (qes l) _ _ (qes_len l) (by unfold qes; rw [List.getElem?_map, hlk]; rfl)
      simp -implicitDefEqProofs [go_sem, hkl]; (repeat refine And.intro (by first | decide +kernel | omega | kernel_rfl) ?_); (try decide +kernel)
      generalize (0 : Rat) = Q at *
      refine .inl ⟨_, hof, ?_⟩; simp -implicitDefEqProofs [go_sem, hzl, hg]; (repeat refine And.intro (by first | decide +kernel | omega | kernel_rfl) ?_); (try decide +kernel)
      refine ⟨k + 1, ?_⟩; (repeat' apply And.intro) <;> first | omega | (exact hst) | assumption | rfl
    · obtain rfl : k = c := by omega
      have e : qfil l k = qes l := by unfold qfil; rw [← hll, ← qes_len l]; exact fill_end (qes l) _
      simp -implicitDefEqProofs [go_sem, e]; (repeat refine And.intro (by first | decide +kernel | omega | kernel_rfl) ?_); (try decide +kernel)
      refine ⟨i + 1, ?_⟩; (repeat' apply And.intro) <;> first | omega | (exact List.replicate_succ'.symm) | (exact List.range_succ.symm) | assumption | rfl
  · obtain rfl : i = r := by omega
    have h2 := hz i (Nat.le_refl _)
    rw [take_all (show (zeroQ i c).length = i from length_tabQ _ _ _)] at h2
    rw [← h2]
    simp -implicitDefEqProofs [go_sem]; (repeat refine And.intro (by first | decide +kernel | omega | kernel_rfl) ?_); (try decide +kernel)
    exact ⟨nodup_range _, by have := row_range (tqs (zeroQ i c)); rw [tqs_len, show (zeroQ i c).length = i from length_tabQ _ _ _] at this; exact this⟩
end Go.Mt
/-
  A part of the proof.
-/
set_option linter.unusedSimpArgs false
set_option linter.unusedVariables false
namespace Go.Mt
open Go Go.Pm Go.Proofs
theorem row_t {rows : List (Option (List (List D)))} {r : Nat} {es : List (List D)} (h : rows[r]? = some (some es)) (el rel : TypeId) (k ver : Nat) (fz : Bool) (out : List Nat) : Tab.row ⟨el, rel, k, ver, fz, out, rows⟩ r = some es := by
  simp [Tab.row, h]
theorem rowAt_t {rows : List (Option (List (List D)))} {r : Nat} {es : List (List D)} (h : rows[r]? = some (some es)) (el rel : TypeId) (k ver : Nat) (fz : Bool) (out : List Nat) (σ : St) (K : St → List (List D) → Prop) : RowAt ⟨el, rel, k, ver, fz, out, rows⟩ r σ K = K σ es := by
  unfold RowAt
  rw [row_t h]
  simp
theorem elemR_t {rows : List (Option (List (List D)))} {out : List Nat} {i r : Nat} {es : List (List D)} (h1 : out[i]? = some r) (h : rows[r]? = some (some es)) (el rel : TypeId) (k ver : Nat) (fz : Bool) (σ : St) (K : St → Nat → Prop) : ElemR ⟨el, rel, k, ver, fz, out, rows⟩ i σ K = K σ r := by
  unfold ElemR
  simp [h1, row_t h]
/-- a function, turned at one place -/
def upd2 (f : Nat → Nat → Rat) (i k : Nat) (v : Rat) : Nat → Nat → Rat := fun i' k' => if i' = i ∧ k' = k then v else f i' k'
/-- one row, as it lies -/
def trow (f : Nat → Nat → Rat) (c i : Nat) : List (List D) := qes (((List.range c).map fun k => f i k).map nq)
theorem tabR_get (f : Nat → Nat → Rat) {r c i : Nat} (hi : i < r) : ((tqs (tabQ f r c)).map some)[i]? = some (some (trow f c i)) := by
  unfold tqs tabQ trow; simp [hi]
theorem trow_len (f : Nat → Nat → Rat) (c i : Nat) : (trow f c i).length = c := by simp [trow, qes]
theorem trow_get (f : Nat → Nat → Rat) {c i k : Nat} (hk : k < c) : (trow f c i)[k]? = some (qel (nq (f i k))) := by
  unfold trow qes; simp [hk]
theorem trow_set (f : Nat → Nat → Rat) {c i k : Nat} (hk : k < c) (v : Rat) : (trow f c i).set k (qel (nq v)) = trow (upd2 f i k v) c i := by
  refine List.ext_getElem? fun j => ?_
  by_cases hj : j < c
  · rw [trow_get _ hj, List.getElem?_set]
    unfold upd2
    by_cases h : k = j
    · subst h
      rw [if_pos rfl, if_pos (by rw [trow_len]; exact hj), if_pos ⟨rfl, rfl⟩]
    · rw [if_neg h, trow_get _ hj, if_neg (by omega)]
  · rw [List.getElem?_eq_none (by rw [List.length_set, trow_len]; omega), List.getElem?_eq_none (by rw [trow_len]; omega)]
theorem trow_ne (f : Nat → Nat → Rat) {c i i' k : Nat} (h : i' ≠ i) (v : Rat) : trow (upd2 f i k v) c i' = trow f c i' := by
  refine List.ext_getElem? fun j => ?_
  by_cases hj : j < c
  · rw [trow_get _ hj, trow_get _ hj]
    unfold upd2
    rw [if_neg (by omega)]
  · rw [List.getElem?_eq_none (by rw [trow_len]; omega), List.getElem?_eq_none (by rw [trow_len]; omega)]
theorem tabR_len (f : Nat → Nat → Rat) (r c : Nat) : ((tqs (tabQ f r c)).map some).length = r := by simp [tqs, tabQ]
theorem tabR_set (f : Nat → Nat → Rat) {r c i k : Nat} (hi : i < r) (hk : k < c) (v : Rat) :
    ((tqs (tabQ f r c)).map some).set i (some ((trow f c i).set k (qel (nq v)))) = (tqs (tabQ (upd2 f i k v) r c)).map some := by
  rw [trow_set f hk]
  refine List.ext_getElem? fun j => ?_
  by_cases hj : j < r
  · rw [tabR_get _ hj, List.getElem?_set]
    by_cases h : i = j
    · subst h
      rw [if_pos rfl, if_pos (by rw [tabR_len]; exact hj)]
    · rw [if_neg h, tabR_get _ hj, trow_ne f (fun e => h e.symm)]
  · rw [List.getElem?_eq_none (by rw [List.length_set, tabR_len]; omega), List.getElem?_eq_none (by rw [tabR_len]; omega)]
end Go.Mt
/-
  A part of the proof.
-/
set_option linter.unusedSimpArgs false
set_option linter.unusedVariables false
namespace Go.Mt
open Go Go.Pm Go.Proofs
theorem sl_range {T : Tab} {V : List (List Rat)} (h : T.rows = (tqs V).map some) : ∀ n, n ≤ V.length → T.sl (List.range n) = some ((qrs V).take n) := by
  have key : ∀ (l : List Nat) (x : Nat), T.sl (l ++ [x]) = match T.sl l, T.row x with
      | some r, some es => some (r ++ [[.sl es]])
      | _, _ => none := by
    intro l x
    induction l with
    | nil => simp only [List.nil_append, Tab.sl]; cases T.row x <;> rfl
    | cons y l ih =>
      simp only [List.cons_append, Tab.sl, ih]
      cases T.row y <;> cases T.sl l <;> cases T.row x <;> rfl
  intro n
  induction n with
  | zero => intro _; rfl
  | succ n ih =>
    intro hn
    have hr : T.row n = some (qes ((V[n]'(by omega)).map nq)) := by
      unfold Tab.row; rw [h]; simp [tqs, show n < V.length by omega]
    rw [List.range_succ, key, ih (by omega), hr]
    have : n < (qrs V).length := by rw [qrs_len]; omega
    rw [List.take_add_one, List.getElem?_eq_getElem this, qrs_ge]
    rfl
/-- a table as data -/
theorem sl_tqs {el rel : TypeId} {k ver n : Nat} {fz : Bool} {out : List Nat} {V : List (List Rat)} (h : V.length = n) : Tab.sl ⟨el, rel, k, ver, fz, out, (tqs V).map some⟩ (List.range n) = some (qrs V) := by
  have := sl_range (T := ⟨el, rel, k, ver, fz, out, (tqs V).map some⟩) rfl n (by omega)
  rwa [List.take_of_length_le (by rw [qrs_len]; omega)] at this
theorem entQ_get {A : List (List Rat)} {i j : Nat} (hi : i < A.length) (hj : j < A[i].length) : entQ A i j = A[i][j] := by
  unfold entQ; simp [hi, hj]
theorem tabQ_flat (f : Nat → Nat → Rat) (r c : Nat) : (tabQ f r c).flatten.length = r * c := by
  unfold tabQ
  rw [List.length_flatten, List.map_map]
  have : (List.length ∘ fun i => (List.range c).map fun k => f i k) = fun _ => c := by funext i; simp
  rw [this, List.map_const', List.sum_replicate_nat, List.length_range]
theorem valM_row {m : MR} {K : Nat} (h : Gm K m) : ∀ i (hi : i < (valM m).length), (valM m)[i].length = colsOf m.2 := fun i hi => by
  have := h.row (i := i) (by rw [valM_len] at hi; exact hi)
  simp only [valM_rows, List.getElem_map, valR_len, this]
end Go.Mt
/-
  A part of the proof.
-/
set_option linter.unusedSimpArgs false
set_option linter.unusedVariables false
namespace Go.Mt
open Go Go.Pm Go.Proofs
/-- a normal form whose numbers are not too long -/
structure Nz (V : List (List Rat)) : Prop where
  d : Lz (nm V).1
  z : ∀ r ∈ (nm V).2, ∀ z ∈ r, Lz z
theorem Nz.of {V : List (List Rat)} {K L : Nat} (hq : ∀ r ∈ V, ∀ q ∈ r, ql q ≤ K) (hD : nl (comDen V.flatten) ≤ L) (hKL : K + L < 1099511627776) : Nz V := by
  refine ⟨?_, fun r hr z hz => ?_⟩
  · show (nrm _).2.length < _
    rw [rz_len, zl_nat]
    unfold nrmD; omega
  · obtain ⟨zs, h1, rfl⟩ := List.mem_map.1 hr
    obtain ⟨z0, h2, rfl⟩ := List.mem_map.1 hz
    obtain ⟨r0, h3, rfl⟩ := List.mem_map.1 h1
    obtain ⟨q, h4, rfl⟩ := List.mem_map.1 h2
    have h5 := hq r0 h3 q h4
    have h6 := nl_comNum (K := K) (KL := L) (D := nrmD V) (q := q) (by have := ql_num q; unfold zl at this; omega) (by unfold nrmD; exact hD)
    show (nrm _).2.length < _
    rw [rz_len]
    unfold zl; omega
theorem same11_n (V : List (List Rat)) (hz : Nz V) (hl : V.length < 1099511627776) (hl2 : ∀ r ∈ V, r.length < 1099511627776) : PCall Tryz.prog 54 [.d (md (nm V)), .d (md (nm V))] (.one (.d (.v (.bool true)))) := by
  have hw : ∀ r ∈ (nm V).2, r.length < 1099511627776 := fun r hr => by
    obtain ⟨zs, h1, rfl⟩ := List.mem_map.1 hr
    obtain ⟨r0, h3, rfl⟩ := List.mem_map.1 h1
    rw [List.length_map, List.length_map]; exact hl2 r0 h3
  have hs := same11_p (nm V) (nm V) hz.d hz.d hz.z hz.z hw hw (by rw [nm_len]; exact hl) (by rw [nm_len]; exact hl)
  rw [decide_eq_true rfl] at hs
  exact hs
end Go.Mt
