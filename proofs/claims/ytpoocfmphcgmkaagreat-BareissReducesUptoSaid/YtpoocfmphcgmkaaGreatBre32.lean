/-
  A part of the proof.
-/
import Derived.Test.YtpoocfmphcgmkaaGreatBre30
import Derived.Test.YtpoocfmphcgmkaaGreatBre22
import Derived.Test.YtpoocfmphcgmkaaGreatBre31
set_option linter.unusedVariables false
set_option linter.unusedSimpArgs false
set_option linter.unusedSimpArgs false
set_option linter.unusedVariables false
namespace Go.Mt
open Go Go.Pm Go.Proofs
/-- rows of fractions, each a memory of its own -/
def tqs (V : List (List Rat)) : List (List (List D)) := V.map fun qs => qes (qs.map nq)
@[go_sem] theorem tqs_len (V : List (List Rat)) : (tqs V).length = V.length := by simp [tqs]
theorem tqs_d (V : List (List Rat)) : ((tqs V).map fun es => [D.sl es]) = qrs V := by unfold tqs qrs; rw [List.map_map]; rfl
/-- a matrix that came in, or was made -/
structure Gl (m : MR) : Prop where
  d : Rz m.1
  ne : ofR m.1 ≠ 0
  g : Grw m.2
  ld : m.1.2.length < 8589934592
  lz : ∀ r ∈ m.2, ∀ z ∈ r, z.2.length < 8589934592
theorem check11_p (m : MR) (hd : Rz m.1) (h : Grw m.2) : PCall Tryz.prog 36 [.d (md m)] (.one (.d (.v (.int .i64 (checkE m))))) := by
  have hs := sign3_p m.1 hd
  have hnr := h.nr
  by_cases h0 : ofR m.1 = 0
  · have e : checkE m = 6 := by unfold checkE; rw [if_pos h0]
    rw [h0] at hs
    rw [e]
    refine pcall_of hmo Tryz.func36 rfl (by kernel_rfl) (by simp [Tryz.ntmps36]) ?_; simp -implicitDefEqProofs [go_sem, Tryz.ntmps36]; (repeat refine And.intro (by first | decide +kernel | omega | kernel_rfl) ?_); (try decide +kernel)
    refine .inl ⟨_, hs, ?_⟩; simp -implicitDefEqProofs [go_sem]; (repeat refine And.intro (by first | decide +kernel | omega | kernel_rfl) ?_); (try decide +kernel)
  · have hsg : ¬ (ofR m.1).sign = 0 := fun h => h0 (Int.sign_eq_zero_iff_zero.1 h)
    refine pcall_of hmo Tryz.func36 rfl (by kernel_rfl) (by simp [Tryz.ntmps36]) ?_; simp -implicitDefEqProofs [go_sem, Tryz.ntmps36]; (repeat refine And.intro (by first | decide +kernel | omega | kernel_rfl) ?_); (try decide +kernel)
    refine .inl ⟨_, hs, ?_⟩; simp -implicitDefEqProofs [go_sem, hsg]; (repeat refine And.intro (by first | decide +kernel | omega | kernel_rfl) ?_); (try decide +kernel)
    refine loop_rule [] (fun (k : Nat) => ⟨25, [(1, .pr 0 0 0 0), (10, .d (.sl (rws m.2))), (11, intP .i64 (m.2.length : Int)), (12, intP .i64 (k : Int))], [(0, .box (mbx m))], 1000⟩)
      (fun k => k ≤ m.2.length ∧ allK (fun r => decide (r.length = colsOf m.2)) m.2 k) (fun k => m.2.length - k) 0 ⟨Nat.zero_le _, allK_zero _ _⟩ (by simp) (by simp -implicitDefEqProofs [go_sem]) (fun k ⟨hk, ha⟩ => ?_)
    by_cases hkl : k < m.2.length
    · have hg0 : ∀ h : 0 < m.2.length, (m.2[0]'h).length = colsOf m.2 := fun h => colsOf_get h
      have h0l : 0 < m.2.length := by omega
      by_cases hx : m.2[k].length = colsOf m.2
      · simp -implicitDefEqProofs [go_sem, hkl, hg0, h0l, hx]; (repeat refine And.intro (by first | decide +kernel | omega | kernel_rfl) ?_); (try decide +kernel)
        exact ⟨k + 1, ⟨by omega, allK_succ hkl ha (by simp [hx])⟩, by omega, by omega⟩
      · have hz : ¬ ((m.2[k].length : Nat) : Int) = ((colsOf m.2 : Nat) : Int) := by omega
        have e : checkE m = 2 := by
          have : evenB m.2 = false := by
            unfold evenB; rw [List.all_eq_false]; exact ⟨m.2[k], List.getElem_mem hkl, by simp [hx]⟩
          unfold checkE; rw [if_neg h0, this]; rfl
        rw [e]
        simp -implicitDefEqProofs [go_sem, hkl, hg0, h0l, hx, hz]; (repeat refine And.intro (by first | decide +kernel | omega | kernel_rfl) ?_); (try decide +kernel)
    · obtain rfl : k = m.2.length := by omega
      have e : checkE m = 0 := by
        have : evenB m.2 = true := allK_all ha
        unfold checkE; rw [if_neg h0, if_pos this]
      rw [e]
      simp -implicitDefEqProofs [go_sem]; (repeat refine And.intro (by first | decide +kernel | omega | kernel_rfl) ?_); (try decide +kernel)
theorem size11_p (m : MR) (h : Grw m.2) : PCall Tryz.prog 54 [.d (md m)] (.tup [.d (.v (.int .i64 (m.2.length : Int))), .d (.v (.int .i64 (colsOf m.2 : Int)))]) := by
  by_cases h0 : m.2.length = 0
  · have e : m.2 = [] := List.eq_nil_of_length_eq_zero h0
    have e2 : colsOf m.2 = 0 := by rw [e]; rfl
    rw [e2, h0]
    refine pcall_of hmo Tryz.func54 rfl (by kernel_rfl) (by simp [Tryz.ntmps54]) ?_; simp -implicitDefEqProofs [go_sem, Tryz.ntmps54]; (repeat refine And.intro (by first | decide +kernel | omega | kernel_rfl) ?_); (try decide +kernel)
    simp -implicitDefEqProofs [go_sem, e]; (repeat refine And.intro (by first | decide +kernel | omega | kernel_rfl) ?_); (try decide +kernel)
  · have h0l : 0 < m.2.length := by omega
    have h0z : ¬ ((m.2.length : Nat) : Int) = 0 := by omega
    have hg0 : ∀ h : 0 < m.2.length, (m.2[0]'h).length = colsOf m.2 := fun h => colsOf_get h
    have h0n : ¬ m.2 = [] := fun h => h0 (by rw [h]; rfl)
    refine pcall_of hmo Tryz.func54 rfl (by kernel_rfl) (by simp [Tryz.ntmps54]) ?_; simp -implicitDefEqProofs [go_sem, Tryz.ntmps54]; (repeat refine And.intro (by first | decide +kernel | omega | kernel_rfl) ?_); (try decide +kernel)
    simp -implicitDefEqProofs [go_sem, h0n, h0, h0z, h0l, hg0]; (repeat refine And.intro (by first | decide +kernel | omega | kernel_rfl) ?_); (try decide +kernel)
theorem nodup_range (n : Nat) : (List.range n).Nodup := List.nodup_range
theorem row_range {α : Type} (l : List α) : (List.range l.length).map (fun r => ((l.map some)[r]?).getD none) = l.map some := by
  refine List.ext_getElem (by simp) fun i h1 h2 => ?_
  simp at h1
  simp [h1]
set_option maxHeartbeats 2000000 in
theorem rows11_t (m : MR) (h : Gl m) : PCall Tryz.prog 39 [.d (md m)] (.one (.sto 80 56 4 (tqs (valM m)))) := by
  have hnr := h.g.nr
  refine pcall_of hmo Tryz.func39 rfl (by kernel_rfl) (by simp [Tryz.ntmps39]) ?_; simp -implicitDefEqProofs [go_sem, Tryz.ntmps39]; (repeat refine And.intro (by first | decide +kernel | omega | kernel_rfl) ?_); (try decide +kernel)
  refine loop_rule [.tab 3 80 56 4] (fun (i : Nat) => ⟨40, [(1, .pr 0 0 0 0), (3, .st 28 i), (10, .d (.sl (rws m.2))), (11, intP .i64 (m.2.length : Int)), (12, intP .i64 (i : Int))],
    [(28, .tab ⟨80, 56, 4, i, false, List.range i, (tqs ((valM m).take i)).map some⟩), (0, .box (mbx m))], 1000⟩)
    (fun i => i ≤ m.2.length) (fun i => m.2.length - i) 0 (Nat.zero_le _) (by simp) (by simp -implicitDefEqProofs [go_sem, tqs]) (fun i hi => ?_)
  by_cases hil : i < m.2.length
  · obtain ⟨row, hrow⟩ : ∃ row, row = m.2[i] := ⟨_, rfl⟩
    have hrm : row ∈ m.2 := hrow ▸ List.getElem_mem hil
    have hrl := h.g.nc row hrm
    have hrl2 : m.2[i].length < 549755813888 := hrow ▸ hrl
    have hvi : (valM m)[i]'(by rw [valM_len]; exact hil) = valR (ofR m.1) row := by
      simp only [valM_rows, List.getElem_map, hrow]
    obtain ⟨l, hl⟩ : ∃ l, l = (valR (ofR m.1) row).map nq := ⟨_, rfl⟩
    have hll : l.length = row.length := by rw [hl]; simp [valR_len]
    simp -implicitDefEqProofs [go_sem, hil]; (repeat refine And.intro (by first | decide +kernel | omega | kernel_rfl) ?_); (try decide +kernel)
    rw [← hrow]
    refine loop_rule [] (fun (k : Nat) => ⟨40, [(1, .pr 0 0 0 0), (3, .st 28 i), (5, .d (.sl (zes row))), (6, .sr 1024 0), (10, .d (.sl (rws m.2))), (11, intP .i64 (m.2.length : Int)), (12, intP .i64 (i : Int)), (19, .d (.sl (zes row))), (20, intP .i64 (row.length : Int)), (21, intP .i64 (k : Int))],
      [(1024, .arr ⟨56, 4, 0, false, qfil l k⟩), (28, .tab ⟨80, 56, 4, i, false, List.range i, (tqs ((valM m).take i)).map some⟩), (0, .box (mbx m))], 2000⟩)
      (fun k => k ≤ row.length) (fun k => row.length - k) 0 (Nat.zero_le _) (by simp) (by simp -implicitDefEqProofs [go_sem, qfil, hll]) (fun k hk => ?_)
    have hzl : (qfil l k).length = row.length := by unfold qfil; rw [← hll, ← qes_len l]; exact fill_len (qes l) _ (by rw [qes_len]; omega)
    by_cases hkl : k < row.length
    · have hzm : row[k] ∈ row := List.getElem_mem hkl
      have hmk := make5_p row[k] m.1 (h.g.rz row hrm _ hzm) h.d (by have := h.lz row hrm _ hzm; omega) (by have := h.ld; omega) h.ne
      have hg : (qfil l k)[k]? = some [.v (.bool false), .sl [], .v (.bool false), .sl []] := by unfold qfil; rw [← qes_len l]; exact fill_get (qes l) _ (by rw [qes_len]; omega)
      have hlk : l[k]? = some (nq (ratv (ofR row[k]) (ofR m.1))) := by rw [hl]; unfold valR; simp [hkl]
      have hst : (qfil l k).set k (qel (nq (ratv (ofR row[k]) (ofR m.1)))) = qfil l (k + 1) := fill_x (qes l) _ _ (qes_len l) (by unfold qes; rw [List.getElem?_map, hlk]; rfl)
      generalize ratv (ofR row[k]) (ofR m.1) = Q at *
      simp -implicitDefEqProofs [go_sem, hkl]; (repeat refine And.intro (by first | decide +kernel | omega | kernel_rfl) ?_); (try decide +kernel)
      refine .inl ⟨_, hmk, ?_⟩; simp -implicitDefEqProofs [go_sem, hzl, hg]; (repeat refine And.intro (by first | decide +kernel | omega | kernel_rfl) ?_); (try decide +kernel)
      refine ⟨k + 1, ?_⟩; (repeat' apply And.intro) <;> first | omega | (exact hst) | assumption | rfl
    · obtain rfl : k = row.length := by omega
      have e : qfil l row.length = qes l := by unfold qfil; rw [← hll, ← qes_len l]; exact fill_end (qes l) _
      have hsn : (tqs ((valM m).take i)).map some ++ [some (qes l)] = (tqs ((valM m).take (i + 1))).map some := by
        have hvl : i < (valM m).length := by rw [valM_len]; exact hil
        rw [List.take_add_one, List.getElem?_eq_getElem hvl, hvi, tqs, tqs, List.map_append, List.map_append, hl]; rfl
      have hmn : min i m.2.length = i := Nat.min_eq_left (by omega)
      simp -implicitDefEqProofs [go_sem, e, hmn]; (repeat refine And.intro (by first | decide +kernel | omega | kernel_rfl) ?_); (try decide +kernel)
      refine ⟨i + 1, ?_⟩; (repeat' apply And.intro) <;> first | omega | (exact hsn) | (exact List.range_succ.symm) | assumption | rfl
  · obtain rfl : i = m.2.length := by omega
    rw [take_all (valM_len m)]
    simp -implicitDefEqProofs [go_sem]; (repeat refine And.intro (by first | decide +kernel | omega | kernel_rfl) ?_); (try decide +kernel)
    exact ⟨nodup_range _, by have := row_range (tqs (valM m)); rw [tqs_len, valM_len] at this; exact this⟩
end Go.Mt
/-
  A part of the proof.
-/
set_option linter.unusedSimpArgs false
set_option linter.unusedVariables false
namespace Go.Mt
open Go Go.Pm Go.Proofs
@[go_sem] theorem qes_four (l : List QR) : (∀ e ∈ qes l, e.length = 4) = True := eq_true fun e he => by obtain ⟨x, _, rfl⟩ := List.mem_map.1 he; rfl
@[go_sem] theorem zes_two (l : List ZR) : (∀ e ∈ zes l, e.length = 2) = True := eq_true fun e he => by obtain ⟨x, _, rfl⟩ := List.mem_map.1 he; rfl
theorem flt_snoc {V : List (List Rat)} {i : Nat} (hi : i < V.length) : flt V i ++ V[i] = flt V (i + 1) := by
  rw [← flt_succ hi]; unfold fltIn; rw [List.take_length]
theorem flt_le {V : List (List Rat)} {i : Nat} (hi : i < V.length) : (flt V i).length + V[i].length ≤ V.flatten.length := by
  have := fltIn_le (V := V) hi (Nat.le_refl _)
  unfold fltIn at this
  rw [List.length_append, List.take_length] at this
  exact this
theorem flt_part {α : Type} (f : Rat → α) {V : List (List Rat)} {i : Nat} (hi : i < V.length) : ((V.flatten.map f).drop (flt V i).length).take V[i].length = V[i].map f := by
  have e : V.flatten = (flt V i ++ V[i]) ++ (V.drop (i + 1)).flatten := by
    conv => lhs; rw [← List.take_append_drop i V, List.flatten_append, List.drop_eq_getElem_cons hi, List.flatten_cons]
    rw [List.append_assoc]; rfl
  conv => lhs; rw [e]
  rw [List.append_assoc, List.map_append, List.map_append, List.drop_left' (by simp), List.take_left' (by simp)]
set_option maxRecDepth 100000 in
set_option maxHeartbeats 2000000 in
theorem from11_p (qss : List (List Rat)) (hq : ∀ q ∈ qss.flatten, ql q < 8589934592) (hn : qss.length < 549755813888) (hfl : qss.flatten.length < 549755813888) (hD : nl (comDen qss.flatten) < 8589934592) :
    PCall Tryz.prog 41 [.d (.sl (qrs qss))] (.one (.d (md (nm qss)))) := by
  have hc := common5_p qss.flatten hq hfl hD
  obtain ⟨D, hDd⟩ : ∃ D, D = comDen qss.flatten := ⟨_, rfl⟩
  obtain ⟨N, hN⟩ : ∃ N : List ZR, N = qss.flatten.map fun q => nrm (comNum D q) := ⟨_, rfl⟩
  rw [← hDd, ← hN] at hc
  have hz0 : ∀ i (hi : i < qss.length), ((zes N).drop (flt qss i).length).take qss[i].length = zes (qss[i].map fun q => nrm (comNum D q)) := fun i hi => by
    unfold zes; rw [← List.map_drop, ← List.map_take, hN, flt_part _ hi]
  have hNl : N.length = qss.flatten.length := by rw [hN, List.length_map]
  obtain ⟨F, hF⟩ : ∃ F, F = qss.flatten := ⟨_, rfl⟩
  have hall := flt_all qss
  rw [← hF] at hc hall
  have hnm : nm qss = (nrm (D : Int), qss.map fun r => r.map fun q => nrm (comNum D q)) := by
    unfold nm nrmZ nrmD; rw [← hDd, List.map_map]
    congr 1
    exact List.map_congr_left fun r _ => by simp [Function.comp]
  rw [hnm]
  refine pcall_of hmo Tryz.func41 rfl (by kernel_rfl) (by simp [Tryz.ntmps41]) ?_; simp -implicitDefEqProofs [go_sem, Tryz.ntmps41]; (repeat refine And.intro (by first | decide +kernel | omega | kernel_rfl) ?_); (try decide +kernel)
  refine loop_rule [.arr 3 56 4] (fun (i : Nat) => ⟨57, [(0, .d (.sl (qrs qss))), (2, .pr 0 0 0 0), (3, .sr 20 i), (12, .d (.sl (qrs qss))), (13, intP .i64 (qss.length : Int)), (14, intP .i64 (i : Int))],
      [(20, .arr ⟨56, 4, i, false, qes ((flt qss i).map nq)⟩), (0, .box [.d (.v (.bool false)), .nl, .nl])], 1000⟩)
    (fun i => i ≤ qss.length) (fun i => qss.length - i) 0 (Nat.zero_le _) (by simp) (by simp -implicitDefEqProofs [go_sem, qes, flt]) (fun i hi => ?_)
  by_cases hil : i < qss.length
  · have hle := flt_le hil
    have hsn : qes ((flt qss i).map nq) ++ qes (qss[i].map nq) = qes ((flt qss (i + 1)).map nq) := by
      rw [← flt_snoc hil]; simp [qes]
    simp -implicitDefEqProofs [go_sem, hil]; (repeat refine And.intro (by first | decide +kernel | omega | kernel_rfl) ?_); (try decide +kernel)
    refine ⟨i + 1, ?_⟩; (repeat' apply And.intro) <;> first | omega | (exact hsn) | assumption | rfl
  · obtain rfl : i = qss.length := by omega
    simp -implicitDefEqProofs [go_sem, hall]; (repeat refine And.intro (by first | decide +kernel | omega | kernel_rfl) ?_); (try decide +kernel)
    refine .inl ⟨_, hc, ?_⟩; simp -implicitDefEqProofs [go_sem]; (repeat refine And.intro (by first | decide +kernel | omega | kernel_rfl) ?_); (try decide +kernel)
    refine loop_rule [.arrB 1044 2 27 1] (fun (i : Nat) => ⟨57, [(2, .pr 0 0 0 0), (7, .d (.sl (zes N))), (8, .pr 1044 0 0 0), (9, intP .i64 ((flt qss i).length : Int)), (29, .d (.sl (qrs qss))), (30, intP .i64 (qss.length : Int)), (31, intP .i64 (i : Int))],
        [(1044, .box [.d (.v (.bool (nrm (D : Int)).1)), .d (.sl (les (nrm (D : Int)).2)), .sr 1068 i]), (1068, .arr ⟨27, 1, i, false, rws ((qss.map fun r => r.map fun q => nrm (comNum D q)).take i)⟩), (0, .box [.d (.v (.bool false)), .nl, .nl])], 5000⟩)
      (fun i => i ≤ qss.length) (fun i => qss.length - i) 0 (Nat.zero_le _) (by simp) (by simp -implicitDefEqProofs [go_sem, rws, flt]) (fun i hi => ?_)
    by_cases hil : i < qss.length
    · have hle := flt_le hil
      have hz := hz0 i hil
      have hle2 : ((flt qss i).length : Int) + (qss[i].length : Int) ≤ (N.length : Int) := by omega
      have hsn := take_snoc (e := [.sl (zes (qss[i].map fun q => nrm (comNum D q)))]) rel (qss.map fun r => r.map fun q => nrm (comNum D q)) (k := i) (by simpa using hil) (by simp [rel])
      have hfs : (flt qss i).length + qss[i].length = (flt qss (i + 1)).length := by rw [← flt_snoc hil, List.length_append]
      have ht : (((flt qss i).length : Int) + (qss[i].length : Int)).toNat - (flt qss i).length = qss[i].length := by omega
      simp -implicitDefEqProofs [go_sem, hil, hle2]; (repeat refine And.intro (by first | decide +kernel | omega | kernel_rfl) ?_); (try decide +kernel)
      rw [ht, hz]
      refine ⟨i + 1, ?_⟩; (repeat' apply And.intro) <;> first | omega | (exact hsn) | assumption | rfl
    · obtain rfl : i = qss.length := by omega
      rw [take_all (show (qss.map fun r => r.map fun q => nrm (comNum D q)).length = qss.length by simp)]
      simp -implicitDefEqProofs [go_sem]; (repeat refine And.intro (by first | decide +kernel | omega | kernel_rfl) ?_); (try decide +kernel)
end Go.Mt
