/-
  A part of the proof.
-/
import Derived.Test.YtpoocfmphcgmkaaGreatBla43
import Derived.Test.YtpoocfmphcgmkaaGreatBla44
import Derived.Test.YtpoocfmphcgmkaaGreatBla40
import Derived.Test.YtpoocfmphcgmkaaGreatRows
import Derived.WalkKit
import Derived.ProofKit
import Derived.OpenShut
import Derived.JoinedCond
import Derived.Test.YtpoocfmphcgmkaaGreatBla38
set_option linter.unusedVariables false
set_option linter.unusedSimpArgs false
set_option linter.unusedSimpArgs false
set_option linter.unusedVariables false
namespace Go.Mt
open Go Go.Pm Go.Proofs
def wo (R : List (List ZR)) (r c i : Nat) : List (List ZR) := ((R.take i).eraseIdx r).map fun row => row.eraseIdx c
theorem wo_succ {R : List (List ZR)} {r c i : Nat} (hi : i < R.length) : wo R r c (i + 1) = if i = r then wo R r c i else wo R r c i ++ [R[i].eraseIdx c] := by
  unfold wo
  rw [List.take_succ_eq_append_getElem hi]
  have hl : (R.take i).length = i := by simp; omega
  by_cases h : i = r
  · rw [if_pos h, List.eraseIdx_append_of_length_le (by omega), List.eraseIdx_of_length_le (l := R.take i) (by omega), show r - (R.take i).length = 0 by omega]
    simp
  · rw [if_neg h]
    by_cases h2 : i < r
    · rw [List.eraseIdx_of_length_le (by simp; omega), List.eraseIdx_of_length_le (l := R.take i) (by omega), List.map_append]
      rfl
    · rw [List.eraseIdx_append_of_lt_length (by omega)]
      rw [List.map_append]; rfl
theorem wo_le (R : List (List ZR)) (r c i : Nat) : (wo R r c i).length ≤ i := by
  unfold wo
  rw [List.length_map]
  exact Nat.le_trans (List.length_eraseIdx_le ..) (List.length_take_le ..)
theorem zes_del (l : List ZR) (c : Nat) : (zes l).take c ++ (zes l).drop (c + 1) = zes (l.eraseIdx c) := by
  unfold zes
  rw [List.eraseIdx_eq_take_drop_succ]
  simp
set_option maxRecDepth 100000 in
set_option maxHeartbeats 1000000 in
theorem without_p (m : MR) (r c : Nat) (hc : ∀ row ∈ m.2, c < row.length ∧ row.length < 549755813888) (hr : r < 549755813888) (hn : m.2.length < 549755813888) :
    PCall Tryz.prog 146 [.d (md m), .d (.v (.int .i64 (r : Int))), .d (.v (.int .i64 (c : Int)))] (.one (.d (md (m.1, wo m.2 r c m.2.length)))) := by
  refine pcall_of hmo Tryz.func146 rfl (by kernel_rfl) (by simp [Tryz.ntmps146]) ?_; simp -implicitDefEqProofs [go_sem, Tryz.ntmps146]; (repeat refine And.intro (by first | decide +kernel | omega | kernel_rfl) ?_); (try decide +kernel)
  refine loop_rule [.arrB 20 2 27 1] (fun (i : Nat) => ⟨37, [(0, .d (md m)), (1, intP .i64 (r : Int)), (2, intP .i64 (c : Int)), (3, .pr 0 0 0 0), (6, .pr 4 0 0 0), (7, .pr 20 0 0 0), (14, .d (.sl (rws m.2))), (15, intP .i64 (m.2.length : Int)), (16, intP .i64 (i : Int))],
      [(20, .box [.d (.v (.bool m.1.1)), .d (.sl (les m.1.2)), .sr 44 (wo m.2 r c i).length]), (44, .arr ⟨27, 1, (wo m.2 r c i).length, false, rws (wo m.2 r c i)⟩), (4, .box [.d (.v (.bool false)), .nl, .nl])], 1000⟩)
    (fun i => i ≤ m.2.length) (fun i => m.2.length - i) 0 (Nat.zero_le _) (by simp) (by simp -implicitDefEqProofs [go_sem, rws, wo]) (fun i hi => ?_)
  by_cases hil : i < m.2.length
  · have hws := wo_succ (r := r) (c := c) hil
    have hci := hc _ (List.getElem_mem hil)
    have hwl := wo_le m.2 r c i
    by_cases hir : i = r
    · rw [if_pos hir] at hws
      subst hir
      simp -implicitDefEqProofs [go_sem, hil]; (repeat refine And.intro (by first | decide +kernel | omega | kernel_rfl) ?_); (try decide +kernel)
      refine ⟨i + 1, by omega, by omega, by omega, ?_, ?_⟩ <;> rw [hws]
    · rw [if_neg hir] at hws
      have hirz : ¬ (i : Int) = (r : Int) := by omega
      have hcl := clone_p m.2[i] (fun h => by rw [h] at hci; simp at hci) (by omega)
      simp -implicitDefEqProofs [go_sem, hil, hir, hirz]; (repeat refine And.intro (by first | decide +kernel | omega | kernel_rfl) ?_); (try decide +kernel)
      have hdl := fun id nid => del_call (id := id) (ver := 0) (nid := nid) (el := 26) (es := zes m.2[i]) (i := c) (j := c + 1) (by omega) (by rw [zes_len]; omega)
      rw [zes_del] at hdl
      have e1 : ((c + 1 : Nat) : Int) = (c : Int) + 1 := by omega
      simp only [e1] at hdl
      refine .inl ⟨_, hcl, ?_⟩; simp -implicitDefEqProofs [go_sem, hil, hir, hirz]; (repeat refine And.intro (by first | decide +kernel | omega | kernel_rfl) ?_); (try decide +kernel)
      refine .inr ⟨_, _, _, hdl _ _, by simp -implicitDefEqProofs [go_sem], ?_⟩
      simp -implicitDefEqProofs [go_sem, hil, hir, hirz]
      refine ⟨by omega, by kernel_rfl, ?_⟩
      refine ⟨by omega, i + 1, by omega, by omega, by omega, by rw [hws, List.length_append]; rfl, ?_⟩
      rw [hws]
      unfold rws
      rw [List.map_append]
      rfl
  · obtain rfl : i = m.2.length := by omega
    simp -implicitDefEqProofs [go_sem]; (repeat refine And.intro (by first | decide +kernel | omega | kernel_rfl) ?_); (try decide +kernel)
end Go.Mt
/-
  A part of the proof.
-/
set_option linter.unusedSimpArgs false
set_option linter.unusedVariables false
namespace Go.Mt
open Go Go.Pm Go.Proofs
/-- a minor with one number -/
theorem minor1_p (x : Int) (hx : zl x < 100) (hd : dtZ (fun _ _ => x) 1 = x) : PCall Tryz.prog 124 [.d (md (nrm 1, [[nrm x]]))] (.one (.d (qd (nq (x : Rat))))) := by
  have hz : zl (ofR (nrm x)) < 100 := by rw [ofR_nrm]; exact hx
  have hg : Grw [[nrm x]] := by
    refine ⟨fun r hr z hz2 => ?_, by simp, fun r hr => ?_⟩
    · rw [List.mem_singleton.1 hr] at hz2
      rw [List.mem_singleton.1 hz2]
      exact rz (by omega)
    · rw [List.mem_singleton.1 hr]; exact (by decide : 1 < 549755813888)
  have h1 := normm_p (nrm 1, [[nrm x]]) (rz (by decide)) hg (by unfold checkE; rw [if_neg (by rw [ofR_nrm]; decide)]; rfl)
  have e : nm (valM (nrm 1, [[nrm x]])) = (nrm 1, [[nrm x]]) := by
    unfold valM
    rw [ofR_nrm]
    have e2 : zz [[nrm x]] = [[x]] := by simp [zz, ofR_nrm]
    rw [e2, nm_int]; rfl
  rw [e] at h1
  have h2 := det1_p [[nrm x]] (fun _ _ => x) (n := 1) (K := 100) rfl (fun k h => by simp at h; subst h; rfl) (by decide) (by decide) (fun _ _ _ => by omega) (by decide)
  rw [hd] at h2
  refine pcall_of hmo Tryz.func124 rfl (by kernel_rfl) (by simp [Tryz.ntmps124]) ?_; simp -implicitDefEqProofs [go_sem, Tryz.ntmps124]; (repeat refine And.intro (by first | decide +kernel | omega | kernel_rfl) ?_); (try decide +kernel)
  refine .inl ⟨_, h1, ?_⟩; simp -implicitDefEqProofs [go_sem]; (repeat refine And.intro (by first | decide +kernel | omega | kernel_rfl) ?_); (try decide +kernel)
  refine .inl ⟨_, h2, ?_⟩; simp -implicitDefEqProofs [go_sem, qd]; (repeat refine And.intro (by first | decide +kernel | omega | kernel_rfl) ?_); (try decide +kernel)
theorem dt1 : dtZ (fun _ _ => 1) 1 = 1 ∧ dtZ (fun _ _ => 2) 1 = 2 ∧ dtZ (fun _ _ => 3) 1 = 3 ∧ dtZ (fun _ _ => 4) 1 = 4 := by decide +kernel
/-- the document's example -/
def exA : Nat → Nat → Int := fun i j => if i = 0 then (if j = 0 then 1 else 2) else (if j = 0 then 3 else 4)
theorem dt2 : dtZ exA 2 = -2 := by decide +kernel
end Go.Mt
/-
  A part of the proof.
-/
set_option linter.unusedSimpArgs false
set_option linter.unusedVariables false
namespace Go.Mt
open Go Go.Pm Go.Proofs
theorem evenR_p (V : List (List Rat)) {c : Nat} (hc : ∀ r ∈ V, r.length = c) (hn : V.length < 549755813888) (hcn : c < 549755813888) : PCall Tryz.prog 191 [.d (.sl (qrs V))] (.one (.d (.v (.bool true)))) := by
  refine pcall_of hmo Tryz.func191 rfl (by kernel_rfl) (by simp [Tryz.ntmps191]) ?_; simp -implicitDefEqProofs [go_sem, Tryz.ntmps191]; (repeat refine And.intro (by first | decide +kernel | omega | kernel_rfl) ?_); (try decide +kernel)
  refine loop_rule [] (fun (k : Nat) => ⟨19, [(0, .d (.sl (qrs V))), (2, .d (.v (.bool false))), (5, .d (.sl (qrs V))), (6, intP .i64 (V.length : Int)), (7, intP .i64 (k : Int))], [], 1000⟩)
    (fun k => k ≤ V.length) (fun k => V.length - k) 0 (Nat.zero_le _) (by simp) (by simp -implicitDefEqProofs [go_sem]) (fun k hk => ?_)
  by_cases hkl : k < V.length
  · have h0 : 0 < V.length := by omega
    have e0 : ∀ hh : 0 < V.length, (V[0]'hh).length = c := fun hh => hc _ (List.getElem_mem hh)
    have hr : V[k].length = c := hc _ (List.getElem_mem hkl)
    simp -implicitDefEqProofs [go_sem, hkl, h0, e0, hr]; (repeat refine And.intro (by first | decide +kernel | omega | kernel_rfl) ?_); (try decide +kernel)
    exact ⟨k + 1, by omega, by omega, by omega⟩
  · obtain rfl : k = V.length := by omega
    simp -implicitDefEqProofs [go_sem]; (repeat refine And.intro (by first | decide +kernel | omega | kernel_rfl) ?_); (try decide +kernel)
theorem flat_take {α : Type} {c : Nat} : ∀ (l : List (List α)), (∀ r ∈ l, r.length = c) → ∀ i (h : i < l.length), (l.flatten.drop (i * c)).take c = l[i]
  | [], _, i, h => absurd h (by simp)
  | r :: l, hc, 0, h => by
    have := hc r (List.mem_cons_self ..)
    rw [Nat.zero_mul, List.drop_zero, List.flatten_cons, ← this, List.take_left]; rfl
  | r :: l, hc, i + 1, h => by
    have h1 := hc r (List.mem_cons_self ..)
    have h2 := flat_take l (fun x hx => hc x (List.mem_cons_of_mem _ hx)) i (by simpa using h)
    rw [List.flatten_cons, show (i + 1) * c = r.length + i * c by rw [h1, Nat.add_mul]; omega, List.drop_append]
    rw [show (r.drop (r.length + i * c)) = [] from List.drop_eq_nil_of_le (by omega), List.nil_append, show r.length + i * c - r.length = i * c by omega]
    exact h2
theorem flat_len {α : Type} {c : Nat} : ∀ (l : List (List α)), (∀ r ∈ l, r.length = c) → l.flatten.length = l.length * c
  | [], _ => by simp
  | r :: l, hc => by
    rw [List.flatten_cons, List.length_append, hc r (List.mem_cons_self ..), flat_len l (fun x hx => hc x (List.mem_cons_of_mem _ hx)), List.length_cons, Nat.add_mul]; omega
set_option maxRecDepth 100000 in
set_option maxHeartbeats 2000000 in
theorem qfrom_p (V : List (List Rat)) {c : Nat} (hc : ∀ r ∈ V, r.length = c) (hn : V.length < 549755813888) (hcn : c < 549755813888) (hf : V.flatten.length < 549755813888) (hq : ∀ q ∈ V.flatten, ql q < 549755813888) (hD : nl (comDen V.flatten) < 549755813888) :
    PCall Tryz.prog 147 [.d (.sl (qrs V))] (.tup [.d (md (nm V)), .d (.v (.int .i64 0))]) := by
  have hev := evenR_p V hc hn hcn
  have hcm := common_p (V.flatten.map nq) (fun x hx => by
    obtain ⟨q, hq2, rfl⟩ := List.mem_map.1 hx
    have := Gq.n q (by have := hq q hq2; omega)
    exact ⟨this.rq, this.ne⟩) (by rw [List.length_map]; exact hf) (fun x hx => by
    obtain ⟨q, hq2, rfl⟩ := List.mem_map.1 hx
    rw [ofQ_nq]; exact hq q hq2)
  have e : (V.flatten.map nq).map ofQ = V.flatten := by
    rw [List.map_map]
    conv => rhs; rw [← List.map_id V.flatten]
    exact List.map_congr_left fun q _ => ofQ_nq q
  rw [e] at hcm
  have hcm := hcm hD
  obtain ⟨N, hN⟩ : ∃ N, N = V.flatten.map fun q => nrm (comNum (comDen V.flatten) q) := ⟨_, rfl⟩
  rw [← hN] at hcm
  obtain ⟨rs, hrs⟩ : ∃ rs, rs = (nm V).2 := ⟨_, rfl⟩
  have hrsl : rs.length = V.length := by rw [hrs, nm_len]
  have hNf : N = rs.flatten := by
    rw [hN, hrs]
    unfold nm nrmZ nrmD
    show _ = (List.map _ (List.map _ V)).flatten
    rw [List.map_map, List.map_flatten]
    congr 1
    refine List.map_congr_left fun r _ => ?_
    simp [Function.comp]
  have hrsc : ∀ r ∈ rs, r.length = c := fun r hr => by
    rw [hrs] at hr
    unfold nm nrmZ at hr
    obtain ⟨r1, h1, rfl⟩ := List.mem_map.1 hr
    obtain ⟨r2, h2, rfl⟩ := List.mem_map.1 h1
    rw [List.length_map, List.length_map]; exact hc r2 h2
  have hNl : N.length = V.length * c := by rw [hNf, flat_len rs hrsc, hrsl]
  have hrz : ∀ r ∈ rs, ∀ z ∈ r, Rz z := fun r hr z hz => by
    have hz2 : z ∈ N := by rw [hNf]; exact List.mem_flatten.2 ⟨r, hr, hz⟩
    rw [hN] at hz2
    obtain ⟨q, hq2, rfl⟩ := List.mem_map.1 hz2
    have h6 := nl_comNum (K := 549755813887) (KL := 549755813887) (D := comDen V.flatten) (q := q) (by have := ql_num q; have := hq q hq2; unfold zl at *; omega) (by omega)
    exact rz (by unfold zl; omega)
  have hle0 := fun i (hi : i < V.length) j hj => fltIn_le (V := V) hi (j := j) hj
  have hnr := hn
  have hrl : ∀ (i : Nat) (hi : i < V.length), V[i].length < 549755813888 := fun i hi => by
    rw [hc _ (List.getElem_mem hi)]; exact hcn
  refine pcall_of hmo Tryz.func147 rfl (by kernel_rfl) (by simp [Tryz.ntmps147]) ?_; simp -implicitDefEqProofs [go_sem, Tryz.ntmps147]; (repeat refine And.intro (by first | decide +kernel | omega | kernel_rfl) ?_); (try decide +kernel)
  refine .inr ⟨[], _, _, eachR_h _ _, by simp -implicitDefEqProofs [go_sem], ?_⟩
  simp -implicitDefEqProofs [go_sem]; (repeat refine And.intro (by first | decide +kernel | omega | kernel_rfl) ?_); (try decide +kernel)
  refine ⟨_, rfl, by decide +kernel, ?_⟩
  simp -implicitDefEqProofs [go_sem]; (repeat refine And.intro (by first | decide +kernel | omega | kernel_rfl) ?_); (try decide +kernel)
  refine loop_rule [.arrB 8 0 56 4] (fun (i : Nat) => ⟨25, [(0, .yd), (7, .d (.sl (qrs V))), (8, intP .i64 (V.length : Int)), (9, intP .i64 (i : Int))],
    [(8, .box [.sr 32 (flt V i).length]), (32, .arr ⟨56, 4, (flt V i).length, false, qes ((flt V i).map nq)⟩), (0, .box [.d (.v (.bool false)), .nl, .nl])], 1000⟩)
    (fun i => i ≤ V.length) (fun i => V.length - i) 0 (Nat.zero_le _) (by simp) (by simp -implicitDefEqProofs [go_sem, flt_zero, qes]) (fun i hi => ?_)
  by_cases hil : i < V.length
  · obtain ⟨row, hrow⟩ : ∃ row, row = V[i] := ⟨_, rfl⟩
    have hrl1 := hrl i hil
    have hle := hle0 i hil
    have hsc := flt_succ hil
    rw [← hrow] at hrl1 hle hsc
    simp -implicitDefEqProofs [go_sem, hil]; (repeat refine And.intro (by first | decide +kernel | omega | kernel_rfl) ?_); (try decide +kernel)
    rw [← hrow]
    refine loop_rule [] (fun (j : Nat) => ⟨25, [(0, .yd), (7, .d (.sl (qrs V))), (8, intP .i64 (V.length : Int)), (9, intP .i64 (i : Int)), (13, .d (.sl (qes (row.map nq)))), (14, intP .i64 (row.length : Int)), (15, intP .i64 (j : Int))],
      [(8, .box [.sr 32 (fltIn V i row j).length]), (32, .arr ⟨56, 4, (fltIn V i row j).length, false, qes ((fltIn V i row j).map nq)⟩), (0, .box [.d (.v (.bool false)), .nl, .nl])], 2000⟩)
      (fun j => j ≤ row.length) (fun j => row.length - j) 0 (Nat.zero_le _) (by simp) (by simp -implicitDefEqProofs [go_sem, fltIn_zero]) (fun j hj => ?_)
    by_cases hjl : j < row.length
    · have h2 := fltIn_len (V := V) (i := i) hjl
      have h3 := hle (j + 1) (by omega)
      simp -implicitDefEqProofs [go_sem, hjl]; (repeat refine And.intro (by first | decide +kernel | omega | kernel_rfl) ?_); (try decide +kernel)
      refine ⟨j + 1, ?_⟩; (repeat' apply And.intro) <;> first | omega | (exact h2.symm) | (exact fltIn_succ hjl rfl) | assumption | rfl
    · obtain rfl : j = row.length := by omega
      rw [hsc]
      simp -implicitDefEqProofs [go_sem]; (repeat refine And.intro (by first | decide +kernel | omega | kernel_rfl) ?_); (try decide +kernel)
      refine ⟨i + 1, ?_⟩; (repeat' apply And.intro) <;> first | omega | assumption | rfl
  · obtain rfl : i = V.length := by omega
    rw [← flt_all] at hcm
    simp -implicitDefEqProofs [go_sem]; (repeat refine And.intro (by first | decide +kernel | omega | kernel_rfl) ?_); (try decide +kernel)
    rw [flt_all] at hcm ⊢
    refine .inl ⟨_, hcm, ?_⟩; simp -implicitDefEqProofs [go_sem]; (repeat refine And.intro (by first | decide +kernel | omega | kernel_rfl) ?_); (try decide +kernel)
    refine .inl ⟨_, hev, ?_⟩; simp -implicitDefEqProofs [go_sem]; (repeat refine And.intro (by first | decide +kernel | omega | kernel_rfl) ?_); (try decide +kernel)
    refine loop_rule [.arr 9 27 1] (fun (i : Nat) => ⟨56, [(2, .pr 0 0 0 0), (3, intP .i64 0), (6, .pr 1028 0 0 0), (7, .d (.sl (zes (N.drop (i * c))))), (9, .sr 1080 i), (33, .d (.sl (qrs V))), (34, intP .i64 (V.length : Int)), (35, intP .i64 (i : Int))],
      [(1080, .arr ⟨27, 1, i, false, rws (rs.take i)⟩), (1028, .box [.d (.v (.bool (nrm (comDen V.flatten : Int)).1)), .d (.sl (les (nrm (comDen V.flatten : Int)).2))]), (0, .box [.d (.v (.bool false)), .nl, .nl])], 3000⟩)
      (fun i => i ≤ V.length) (fun i => V.length - i) 0 (Nat.zero_le _) (by simp) (by simp -implicitDefEqProofs [go_sem, rws]) (fun i hi => ?_)
    by_cases hil : i < V.length
    · have hvl := hc _ (List.getElem_mem hil)
      have hgi := flat_take rs hrsc i (by omega)
      rw [← hNf] at hgi
      have hcl : i * c + c ≤ N.length := by rw [hNl, show i * c + c = (i + 1) * c by rw [Nat.add_mul]; omega]; exact Nat.mul_le_mul_right _ hil
      have hdl : (N.drop (i * c)).length = N.length - i * c := List.length_drop
      have hdd : (N.drop (i * c)).drop c = N.drop ((i + 1) * c) := by rw [List.drop_drop, Nat.add_mul, Nat.one_mul]
      simp -implicitDefEqProofs [go_sem, hil, hvl]; (repeat refine And.intro (by first | decide +kernel | omega | kernel_rfl) ?_); (try decide +kernel)
      refine ⟨i + 1, by omega, by omega, ⟨?_, rfl, by omega⟩, rfl, ?_⟩
      · rw [← hdd]
        unfold zes
        rw [← List.map_drop, List.take_of_length_le (by rw [List.length_map, List.length_drop, hdl]; omega)]
      · have e : List.take c (zes (N.drop (i * c))) = zes rs[i] := by
          rw [← hgi]; unfold zes; rw [List.map_take]
        rw [e, List.take_succ_eq_append_getElem (by omega)]
        unfold rws
        rw [List.map_append]; rfl
    · obtain rfl : i = V.length := by omega
      have hmd := made_q (nrm (comDen V.flatten : Int)) rs (rz (by rw [zl_nat]; omega)) (by rw [ofR_nrm]; have := comDen_pos V.flatten; omega) ⟨hrz, by omega, fun r hr => by rw [hrsc r hr]; exact hcn⟩ (by
        unfold evenB
        rw [List.all_eq_true]
        intro r hr
        have h0 := hrsc _ (List.getElem_mem (show 0 < rs.length by exact List.length_pos_of_mem hr))
        rw [colsOf_get] at h0
        rw [hrsc r hr, h0]; simp)
      have e3 : fracs (ofR (nrm (comDen V.flatten : Int))) (zz rs) = V := by rw [hrs]; exact valM_nm V
      rw [e3] at hmd
      have hta : rs.take V.length = rs := List.take_of_length_le (by omega)
      simp -implicitDefEqProofs [go_sem, hta]; (repeat refine And.intro (by first | decide +kernel | omega | kernel_rfl) ?_); (try decide +kernel)
      refine .inl ⟨_, hmd, ?_⟩; simp -implicitDefEqProofs [go_sem]; (repeat refine And.intro (by first | decide +kernel | omega | kernel_rfl) ?_); (try decide +kernel)
end Go.Mt
/-
  A part of the proof.
-/
set_option linter.unusedSimpArgs false
set_option linter.unusedVariables false
namespace Go.Mt
open Go Go.Pm Go.Proofs
def exR : List (List ZR) := [[nrm 1, nrm 2], [nrm 3, nrm 4]]
def exM (k i : Nat) : Int := if k = 0 then (if i = 0 then 4 else 3) else (if i = 0 then 2 else 1)
theorem wo_ex : wo exR 0 0 2 = [[nrm 4]] ∧ wo exR 0 1 2 = [[nrm 3]] ∧ wo exR 1 0 2 = [[nrm 2]] ∧ wo exR 1 1 2 = [[nrm 1]] := by decide +kernel
theorem exmin_p {k i : Nat} (hk : k < 2) (hi : i < 2) : PCall Tryz.prog 124 [.d (md (nrm 1, wo exR k i 2))] (.one (.d (qd (nq (exM k i : Rat))))) := by
  obtain ⟨h1, h2, h3, h4⟩ := wo_ex
  obtain ⟨d1, d2, d3, d4⟩ := dt1
  rcases (by omega : k = 0 ∨ k = 1) with rfl | rfl <;> rcases (by omega : i = 0 ∨ i = 1) with rfl | rfl
  · rw [h1]; exact minor1_p 4 (by decide) d4
  · rw [h2]; exact minor1_p 3 (by decide) d3
  · rw [h3]; exact minor1_p 2 (by decide) d2
  · rw [h4]; exact minor1_p 1 (by decide) d1
theorem exwo_p {k i : Nat} (hk : k < 2) (hi : i < 2) : PCall Tryz.prog 146 [.d (md (nrm 1, exR)), .d (.v (.int .i64 (k : Int))), .d (.v (.int .i64 (i : Int)))] (.one (.d (md (nrm 1, wo exR k i 2)))) :=
  without_p (nrm 1, exR) k i (fun row hr => by
    have : row.length = 2 := by
      rcases List.mem_cons.1 hr with rfl | hr
      · rfl
      · rw [List.mem_singleton.1 hr]; rfl
    omega) (by omega) (by decide)
/-- the adjugate's entries, row by row -/
def exQ : List (List Rat) := [[4, -2], [-3, 1]]
end Go.Mt
/-
  A part of the proof.
-/
set_option linter.unusedSimpArgs false
set_option linter.unusedVariables false
namespace Go.Mt
open Go Go.Pm Go.Proofs
def exI (i : Nat) : List Rat := exQ[i]?.getD []
theorem exsq_p : PCall Tryz.prog 102 [.d (md (nrm 1, exR))] (.tup [.d (md (nrm 1, exR)), .d (.v (.int .i64 0))]) := by
  have e : nm (valM (nrm 1, exR)) = (nrm 1, exR) := by
    unfold valM
    rw [ofR_nrm, show zz (nrm 1, exR).2 = [[1, 2], [3, 4]] by decide +kernel, nm_int]; rfl
  have hz : ∀ z ∈ exR.flatten, z = nrm 1 ∨ z = nrm 2 ∨ z = nrm 3 ∨ z = nrm 4 := by decide +kernel
  have hk : ∀ r ∈ exR, ∀ z ∈ r, Rz z ∧ zl (ofR z) ≤ 100 := fun r hr z hz2 => by
    rcases hz z (List.mem_flatten.2 ⟨r, hr, hz2⟩) with rfl | rfl | rfl | rfl <;> exact ⟨rz (by decide), by rw [ofR_nrm]; decide⟩
  have h2 : ∀ r ∈ exR, r.length = 2 := by decide +kernel
  have h := square_p (nrm 1, exR) (n := 2) (K := 100) ⟨rz (by decide), by rw [ofR_nrm]; decide, ⟨fun r hr z hz2 => (hk r hr z hz2).1, by decide, fun r hr => by rw [h2 r hr]; decide⟩, by decide +kernel, fun r hr z hz2 => (hk r hr z hz2).2, by rw [ofR_nrm]; decide⟩ rfl rfl (by decide) (by decide)
  rw [e] at h
  exact h
theorem exneg (k i : Nat) : PCall Tryz.prog 141 [.d (qd (nq (exM k i : Rat)))] (.tup [.d (qd (nq (-(exM k i : Rat)))), .d (.v (.int .i64 0))]) := by
  have hb : ql ((exM k i : Int) : Rat) < 100 := by
    unfold exM
    split <;> split <;> decide +kernel
  have h := qneg_p (nq (exM k i : Rat)) (Gq.n _ (by omega)) (by rw [ofQ_nq]; omega)
  rw [ofQ_nq] at h
  exact h
theorem exsn {i k : Nat} (hi : i < 2) (hk : k < 2) : (exI i).take (k + 1) = (exI i).take k ++ [if ((i : Int) + (k : Int)).tmod 2 = 1 then -(exM k i : Rat) else (exM k i : Rat)] := by
  rcases (by omega : k = 0 ∨ k = 1) with rfl | rfl <;> rcases (by omega : i = 0 ∨ i = 1) with rfl | rfl <;> decide +kernel
set_option maxRecDepth 100000 in
set_option maxHeartbeats 2000000 in
theorem exadj_p : PCall Tryz.prog 97 [.d (md (nrm 1, exR))] (.tup [.d (md (nm exQ)), .d (.v (.int .i64 0))]) := by
  have hs := exsq_p
  have hmi := fun k i hk hi => exmin_p (k := k) (i := i) hk hi
  have hwo := fun k i hk hi => exwo_p (k := k) (i := i) hk hi
  have hl : exR.length = 2 := rfl
  generalize exR = R at *
  refine pcall_of hmo Tryz.func97 rfl (by kernel_rfl) (by simp [Tryz.ntmps97]) ?_; simp -implicitDefEqProofs [go_sem, Tryz.ntmps97]; (repeat refine And.intro (by first | decide +kernel | omega | kernel_rfl) ?_); (try decide +kernel)
  refine .inl ⟨_, hs, ?_⟩; simp -implicitDefEqProofs [go_sem, md, hl]; (repeat refine And.intro (by first | decide +kernel | omega | kernel_rfl) ?_); (try decide +kernel)
  refine loop_rule [.arr 5 80 1] (fun (i : Nat) => ⟨60, [(1, .pr 0 0 0 0), (2, .pr 4 0 0 0), (3, intP .i64 0), (5, .sr 68 i), (20, .d (.sl (rws R))), (21, intP .i64 2), (22, intP .i64 (i : Int))],
    [(68, .arr ⟨80, 1, i, false, qrs (exQ.take i)⟩), (0, .box [.d (.v (.bool (nrm 1).1)), .d (.sl (les (nrm 1).2)), .d (.sl (rws R))]), (4, .box [.d (.v (.bool false)), .nl, .nl])], 1000⟩)
    (fun i => i ≤ 2) (fun i => 2 - i) 0 (Nat.zero_le _) (by simp) (by simp -implicitDefEqProofs [go_sem, qrs]) (fun i hi => ?_)
  by_cases hil : i < 2
  · have hilz : (i : Int) < 2 := by omega
    simp -implicitDefEqProofs [go_sem, hil, hilz, hl]; (repeat refine And.intro (by first | decide +kernel | omega | kernel_rfl) ?_); (try decide +kernel)
    refine loop_rule [.arr 7 56 4] (fun (k : Nat) => ⟨60, [(1, .pr 0 0 0 0), (2, .pr 4 0 0 0), (3, intP .i64 0), (5, .sr 68 i), (6, intP .i64 (i : Int)), (7, .sr 1032 k), (20, .d (.sl (rws R))), (21, intP .i64 2), (22, intP .i64 (i : Int)), (26, .d (.sl (rws R))), (27, intP .i64 2), (28, intP .i64 (k : Int))],
      [(1032, .arr ⟨56, 4, k, false, qes (((exI i).take k).map nq)⟩), (68, .arr ⟨80, 1, i, false, qrs (exQ.take i)⟩), (0, .box [.d (.v (.bool (nrm 1).1)), .d (.sl (les (nrm 1).2)), .d (.sl (rws R))]), (4, .box [.d (.v (.bool false)), .nl, .nl])], 2000⟩)
      (fun k => k ≤ 2) (fun k => 2 - k) 0 (Nat.zero_le _) (by simp) (by simp -implicitDefEqProofs [go_sem, qes]) (fun k hk => ?_)
    by_cases hkl : k < 2
    · have hklz : (k : Int) < 2 := by omega
      have h1 := hwo k i hkl hil
      have h2 := hmi k i hkl hil
      simp -implicitDefEqProofs [go_sem, hkl, hklz, hl]; (repeat refine And.intro (by first | decide +kernel | omega | kernel_rfl) ?_); (try decide +kernel)
      refine .inl ⟨_, h1, ?_⟩; simp -implicitDefEqProofs [go_sem, md]; (repeat refine And.intro (by first | decide +kernel | omega | kernel_rfl) ?_); (try decide +kernel)
      refine .inl ⟨_, h2, ?_⟩; simp -implicitDefEqProofs [go_sem]; (repeat refine And.intro (by first | decide +kernel | omega | kernel_rfl) ?_); (try decide +kernel)
      by_cases hp : ((i : Int) + (k : Int)).tmod 2 = 1
      · have h3 := exsn hil hkl
        rw [if_pos hp] at h3
        simp -implicitDefEqProofs [go_sem, hp]; (repeat refine And.intro (by first | decide +kernel | omega | kernel_rfl) ?_); (try decide +kernel)
        refine .inl ⟨_, exneg k i, ?_⟩; simp -implicitDefEqProofs [go_sem, qd]; (repeat refine And.intro (by first | decide +kernel | omega | kernel_rfl) ?_); (try decide +kernel)
        refine ⟨k + 1, by omega, by omega, by omega, ?_⟩
        refine ⟨rfl, ?_⟩
        rw [← List.map_take, ← List.map_take, h3, List.map_append]
        unfold qes
        rw [List.map_append]; rfl
      · have h3 := exsn hil hkl
        rw [if_neg hp] at h3
        simp -implicitDefEqProofs [go_sem, hp]; (repeat refine And.intro (by first | decide +kernel | omega | kernel_rfl) ?_); (try decide +kernel)
        refine ⟨k + 1, by omega, by omega, by omega, ?_⟩
        refine ⟨rfl, ?_⟩
        rw [← List.map_take, ← List.map_take, h3, List.map_append]
        unfold qes
        rw [List.map_append]; rfl
    · obtain rfl : k = 2 := by omega
      simp -implicitDefEqProofs [go_sem, hl]; (repeat refine And.intro (by first | decide +kernel | omega | kernel_rfl) ?_); (try decide +kernel)
      refine ⟨i + 1, by omega, by omega, ⟨rfl, by omega⟩, rfl, ?_⟩
      rcases (by omega : i = 0 ∨ i = 1) with rfl | rfl <;> rfl
  · obtain rfl : i = 2 := by omega
    have hf := qfrom_p exQ (c := 2) (by decide +kernel) (by decide +kernel) (by decide +kernel) (by decide +kernel) (by decide +kernel) (by decide +kernel)
    have e : exQ.take 2 = exQ := rfl
    simp -implicitDefEqProofs [go_sem, hl, e]; (repeat refine And.intro (by first | decide +kernel | omega | kernel_rfl) ?_); (try decide +kernel)
    refine .inl ⟨_, hf, ?_⟩; simp -implicitDefEqProofs [go_sem, md]; (repeat refine And.intro (by first | decide +kernel | omega | kernel_rfl) ?_); (try decide +kernel)
end Go.Mt
/-
  A part of the proof.
-/
set_option linter.unusedSimpArgs false
set_option linter.unusedVariables false
namespace Go.Mt
open Go Go.Pm Go.Proofs
set_option maxRecDepth 100000 in
set_option maxHeartbeats 1000000 in
theorem table12_p (rows : List (List Int)) (hb : ∀ r ∈ rows, ∀ z ∈ r, -9223372036854775808 ≤ z ∧ z ≤ 9223372036854775807) (hn : rows.length < 1000000) (hw : ∀ r ∈ rows, r.length < 1000000) :
    PCall Tryz.prog 96 [.d (.sl (iws rows))] (.one (.d (md (iM rows)))) := by
  obtain ⟨R, hR⟩ : ∃ R : List (List ZR), R = rows.map fun r => r.map nrm := ⟨_, rfl⟩
  have hRl : R.length = rows.length := by rw [hR, List.length_map]
  have e : iM rows = (nrm 1, R) := by rw [hR]; rfl
  rw [e]
  refine pcall_of hmo Tryz.func96 rfl (by kernel_rfl) (by simp [Tryz.ntmps96]) ?_; simp -implicitDefEqProofs [go_sem, Tryz.ntmps96]; (repeat refine And.intro (by first | decide +kernel | omega | kernel_rfl) ?_); (try decide +kernel)
  refine .inl ⟨_, of3_1, ?_⟩; simp -implicitDefEqProofs [go_sem]; (repeat refine And.intro (by first | decide +kernel | omega | kernel_rfl) ?_); (try decide +kernel)
  refine loop_rule [.arrB 12 2 27 1] (fun (i : Nat) => ⟨37, [(2, .pr 0 0 0 0), (3, .pr 12 0 0 0), (11, .d (.sl (iws rows))), (12, intP .i64 (rows.length : Int)), (13, intP .i64 (i : Int))],
      [(12, .box [.d (.v (.bool (nrm 1).1)), .d (.sl (les (nrm 1).2)), .sr 32 i]), (32, .arr ⟨27, 1, i, false, rws (R.take i)⟩), (0, .box [.d (.v (.bool false)), .nl, .nl])], 1000⟩)
    (fun i => i ≤ rows.length) (fun i => rows.length - i) 0 (Nat.zero_le _) (by simp) (by simp -implicitDefEqProofs [go_sem, rws]) (fun i hi => ?_)
  by_cases hil : i < rows.length
  · have hrl := hw _ (List.getElem_mem hil)
    have hRi : R[i]'(by omega) = rows[i].map nrm := by subst hR; simp
    have hbi := hb _ (List.getElem_mem hil)
    have hsn := take_snoc (e := [.sl (zes (rows[i].map nrm))]) rel R (k := i) (by omega) (by rw [hRi]; rfl)
    obtain ⟨r, hr⟩ : ∃ r, r = rows[i] := ⟨_, rfl⟩
    rw [← hr] at hrl hbi hsn
    have hr2 : rows[i] = r := hr.symm
    clear hr
    simp -implicitDefEqProofs [go_sem, hil, hr2]; (repeat refine And.intro (by first | decide +kernel | omega | kernel_rfl) ?_); (try decide +kernel)
    refine loop_rule [.arr 6 26 2] (fun (k : Nat) => ⟨37, [(2, .pr 0 0 0 0), (3, .pr 12 0 0 0), (6, .sr 1032 k), (11, .d (.sl (iws rows))), (12, intP .i64 (rows.length : Int)), (13, intP .i64 (i : Int)), (17, .d (.sl (ies r))), (18, intP .i64 (r.length : Int)), (19, intP .i64 (k : Int))],
        [(1032, .arr ⟨26, 2, k, false, zes ((r.map nrm).take k)⟩), (12, .box [.d (.v (.bool (nrm 1).1)), .d (.sl (les (nrm 1).2)), .sr 32 i]), (32, .arr ⟨27, 1, i, false, rws (R.take i)⟩), (0, .box [.d (.v (.bool false)), .nl, .nl])], 2000⟩)
      (fun k => k ≤ r.length) (fun k => r.length - k) 0 (Nat.zero_le _) (by simp) (by simp -implicitDefEqProofs [go_sem, zes]) (fun k hk => ?_)
    by_cases hkl : k < r.length
    · obtain ⟨h1, h2⟩ := hbi _ (List.getElem_mem hkl)
      have hof := of3_p r[k] h1 h2
      have hsk := take_snoc (e := zel (nrm r[k])) zel (r.map nrm) (k := k) (by rw [List.length_map]; exact hkl) (by rw [List.getElem_map])
      simp -implicitDefEqProofs [go_sem, hkl]; (repeat refine And.intro (by first | decide +kernel | omega | kernel_rfl) ?_); (try decide +kernel)
      refine .inl ⟨_, hof, ?_⟩; simp -implicitDefEqProofs [go_sem, hkl]; (repeat refine And.intro (by first | decide +kernel | omega | kernel_rfl) ?_); (try decide +kernel)
      refine ⟨k + 1, ?_⟩; (repeat' apply And.intro) <;> first | omega | (exact hsk) | assumption | rfl
    · obtain rfl : k = r.length := by omega
      rw [take_all (show (r.map nrm).length = r.length by simp)]
      simp -implicitDefEqProofs [go_sem]; (repeat refine And.intro (by first | decide +kernel | omega | kernel_rfl) ?_); (try decide +kernel)
      refine ⟨i + 1, ?_⟩; (repeat' apply And.intro) <;> first | omega | (exact hsn) | assumption | rfl
  · obtain rfl : i = rows.length := by omega
    rw [take_all hRl]
    simp -implicitDefEqProofs [go_sem]; (repeat refine And.intro (by first | decide +kernel | omega | kernel_rfl) ?_); (try decide +kernel)
theorem exdet_p : PCall Tryz.prog 26 [.d (md (nrm 1, exR))] (.tup [.d (qd (nq ((-2 : Int) : Rat))), .d (.v (.int .i64 0))]) := by
  have hs := exsq_p
  have hd := det1_p exR exA (n := 2) (K := 100) rfl (by decide +kernel) (by decide) (by decide) (fun st j h => by unfold exA; split <;> split <;> decide) (by decide)
  rw [dt2] at hd
  generalize hM : ((nrm 1, exR) : MR) = M at *
  refine pcall_of hmo Tryz.func26 rfl (by kernel_rfl) (by simp [Tryz.ntmps26]) ?_; simp -implicitDefEqProofs [go_sem, Tryz.ntmps26]; (repeat refine And.intro (by first | decide +kernel | omega | kernel_rfl) ?_); (try decide +kernel)
  refine .inl ⟨_, hs, ?_⟩; simp -implicitDefEqProofs [go_sem, md]; (repeat refine And.intro (by first | decide +kernel | omega | kernel_rfl) ?_); (try decide +kernel)
  refine .inl ⟨_, hd, ?_⟩; simp -implicitDefEqProofs [go_sem]; (repeat refine And.intro (by first | decide +kernel | omega | kernel_rfl) ?_); (try decide +kernel)
end Go.Mt
/-
  A part of the proof.
-/
set_option linter.unusedSimpArgs false
set_option linter.unusedVariables false
namespace Go.Mt
open Go Go.Pm Go.Proofs
def exC : MR := iM [[4, -2], [-3, 1]]
theorem exR_iM : iM [[1, 2], [3, 4]] = (nrm 1, exR) := rfl
theorem exC_nm : nm exQ = exC := by decide +kernel
set_option maxRecDepth 100000 in
set_option maxHeartbeats 1000000 in
theorem awake12_p : PCall Tryz.prog 23 [] (.one (.d (.v (.bool true)))) := by
  have t1 := table12_p [[1, 2], [3, 4]] (by decide) (by decide) (by decide)
  have t2 := table12_p [[4, -2], [-3, 1]] (by decide) (by decide) (by decide)
  rw [exR_iM] at t1
  have hd := exdet_p
  have ha := exadj_p
  rw [exC_nm] at ha
  have i4 : Im exC := iM_im _ (by decide +kernel) (by decide) (by decide)
  have hl : Lz exC.1 := by have := i4.ld; unfold Lz; omega
  have hz : ∀ r ∈ exC.2, ∀ z ∈ r, Lz z := fun r hr z hz => by have := (i4.z r hr z hz).2; unfold Lz; omega
  have hs := same11_p exC exC hl hl hz hz (by decide +kernel) (by decide +kernel) (by decide) (by decide)
  rw [decide_eq_true rfl] at hs
  have ho := of5_p (-2) (by decide) (by decide)
  have hq := same5_p (nq ((-2 : Int) : Rat)) (nq ((-2 : Int) : Rat)) (by decide +kernel) (by decide +kernel)
  rw [decide_eq_true rfl] at hq
  have hn := num12_p 0
  have t2 : PCall Tryz.prog 96 _ (.one (.d (md exC))) := t2
  generalize exC = C at *
  generalize ((nrm 1, exR) : MR) = M at *
  refine pcall_of hmo Tryz.func23 rfl (by kernel_rfl) (by simp [Tryz.ntmps23]) ?_; simp -implicitDefEqProofs [go_sem, Tryz.ntmps23]; (repeat refine And.intro (by first | decide +kernel | omega | kernel_rfl) ?_); (try decide +kernel)
  refine .inl ⟨_, t1, ?_⟩; simp -implicitDefEqProofs [go_sem]; (repeat refine And.intro (by first | decide +kernel | omega | kernel_rfl) ?_); (try decide +kernel)
  refine .inl ⟨_, hd, ?_⟩; simp -implicitDefEqProofs [go_sem]; (repeat refine And.intro (by first | decide +kernel | omega | kernel_rfl) ?_); (try decide +kernel)
  refine .inl ⟨_, t1, ?_⟩; simp -implicitDefEqProofs [go_sem]; (repeat refine And.intro (by first | decide +kernel | omega | kernel_rfl) ?_); (try decide +kernel)
  refine .inl ⟨_, ha, ?_⟩; simp -implicitDefEqProofs [go_sem]; (repeat refine And.intro (by first | decide +kernel | omega | kernel_rfl) ?_); (try decide +kernel)
  refine .inl ⟨_, hn, ?_⟩; simp -implicitDefEqProofs [go_sem]; (repeat refine And.intro (by first | decide +kernel | omega | kernel_rfl) ?_); (try decide +kernel)
  refine .inl ⟨_, ho, ?_⟩; simp -implicitDefEqProofs [go_sem]; (repeat refine And.intro (by first | decide +kernel | omega | kernel_rfl) ?_); (try decide +kernel)
  refine .inl ⟨_, hq, ?_⟩; simp -implicitDefEqProofs [go_sem]; (repeat refine And.intro (by first | decide +kernel | omega | kernel_rfl) ?_); (try decide +kernel)
  refine .inl ⟨_, hn, ?_⟩; simp -implicitDefEqProofs [go_sem]; (repeat refine And.intro (by first | decide +kernel | omega | kernel_rfl) ?_); (try decide +kernel)
  refine .inl ⟨_, t2, ?_⟩; simp -implicitDefEqProofs [go_sem]; (repeat refine And.intro (by first | decide +kernel | omega | kernel_rfl) ?_); (try decide +kernel)
  refine .inl ⟨_, hs, ?_⟩; simp -implicitDefEqProofs [go_sem]; (repeat refine And.intro (by first | decide +kernel | omega | kernel_rfl) ?_); (try decide +kernel)
end Go.Mt
/-
  A part of the proof.
-/
set_option linter.unusedSimpArgs false
set_option linter.unusedVariables false
namespace Go.Mt
open Go Go.Pm Go.Proofs
set_option maxRecDepth 100000 in
set_option maxHeartbeats 4000000 in
theorem rank_p (m : MR) {r n K : Nat} (hm : Gm K m) (hr : m.2.length = r) (hc : colsOf m.2 = n) (hr0 : 0 < r) (hn0 : 0 < n) (hrl : r < 900000) (hn : n < 549755813888) (hA : ∀ st j, st < r → zl (enA (valM m) st j) ≤ K) (hK : 2 * bnd r K + 1 < 1099511627776) (P : Nat → Ps) (hP : P = pel (enA (valM m)) r false ⟨ginit (enA (valM m)) r, enA (valM m), 0⟩) :
    PCall Tryz.prog 30 [.d (md m)] (.tup [.d (.v (.int .i64 ((P n).s.piv.length : Int))), .d (.v (.int .i64 0))]) := by
  have he : checkE m = 0 := by unfold checkE; rw [if_neg hm.ne, if_pos hm.ev]
  have hno := normm_p m hm.d hm.g he
  have hvr : ∀ v ∈ valM m, v.length = n := fun v hv => by
    rw [valM_rows] at hv
    obtain ⟨r0, h1, rfl⟩ := List.mem_map.1 hv
    rw [valR_len, even_all hm.ev r0 h1]; exact hc
  have hof := fun nd => of_h (nm (valM m)) (enA (valM m)) (r := r) (nid := nd) (by rw [nm_len, valM_len]; exact hr) (nm_rows hvr) hn0 (by omega) (by omega)
  have hdn := fun (b nd : Nat) (h : b + 1 < nd) => down_h (enA (valM m)) (n := n) (r := r) (K := K) false n r n b (b + 1) nd (by omega) (by omega) (by omega) (by omega) hrl (Nat.le_refl _) hA hK P hP
  simp only [if_neg (show ¬ r = 0 by omega)] at hof
  generalize enA (valM m) = A at *
  generalize nm (valM m) = M at *
  refine pcall_of hmo Tryz.func30 rfl (by kernel_rfl) (by simp [Tryz.ntmps30]) ?_; simp -implicitDefEqProofs [go_sem, Tryz.ntmps30]; (repeat refine And.intro (by first | decide +kernel | omega | kernel_rfl) ?_); (try decide +kernel)
  refine .inl ⟨_, hno, ?_⟩; simp -implicitDefEqProofs [go_sem]; (repeat refine And.intro (by first | decide +kernel | omega | kernel_rfl) ?_); (try decide +kernel)
  refine .inr ⟨[], _, _, hof _, by simp -implicitDefEqProofs [go_sem, mbx], ?_⟩
  simp -implicitDefEqProofs [go_sem, wbx]; (repeat refine And.intro (by first | decide +kernel | omega | kernel_rfl) ?_); (try decide +kernel)
  refine .inr ⟨_, _, _, hdn _ _ (by omega), by simp -implicitDefEqProofs [go_sem, wbx], ?_⟩
  simp -implicitDefEqProofs [go_sem, wbx]; (repeat refine And.intro (by first | decide +kernel | omega | kernel_rfl) ?_); (try decide +kernel)
theorem rz_nq {z : Int} (h : zl z < 1099511627775) : (nq (z : Rat)).1.2.length < 1099511627776 ∧ (nq (z : Rat)).2.2.length < 1099511627776 := by
  unfold nq
  rw [Rat.num_intCast, Rat.den_intCast, rz_len, rz_len]
  exact ⟨by omega, by decide⟩
theorem sqE_parts {m : MR} (hs : sqE m = 0) : checkE m = 0 ∧ 0 < m.2.length ∧ m.2.length = colsOf m.2 := by
  unfold sqE at hs
  by_cases h : checkE m = 0 ∧ (m.2.length = 0 ∨ m.2.length ≠ colsOf m.2)
  · rw [if_pos h] at hs; exact absurd hs (by decide)
  · rw [if_neg h] at hs; exact ⟨hs, by omega, by omega⟩
set_option maxRecDepth 100000 in
set_option maxHeartbeats 4000000 in
theorem last_y (m : MR) (hm : Im m) (hs : sqE m = 0) : PCall Tryz.prog 4 [.d (md m)] (.one (.d (.v (.bool true)))) := by
  have h1 := square12_p m hm.d hm.g
  rw [hs] at h1
  obtain ⟨hc, hn0, hsq⟩ := sqE_parts hs
  obtain ⟨n, hn⟩ : ∃ n, m.2.length = n := ⟨_, rfl⟩
  rw [hn] at hn0 hsq
  have gm := hm.gm hc
  have gl := hm.gl (check_parts hc).1
  have hnn : n * n < 1048577 := by
    have h := flat_len m.2 (c := n) (fun r hr => by rw [even_all gm.ev r hr]; exact hsq.symm)
    have h2 := hm.fl
    rw [h, hn] at h2; exact h2
  have hn1 : n ≤ 1024 := by
    by_cases h : n ≤ 1024
    · exact h
    · have := Nat.mul_le_mul (show 1025 ≤ n by omega) (show 1025 ≤ n by omega)
      omega
  have hvr : ∀ v ∈ valM m, v.length = n := fun v hv => by
    rw [valM_rows] at hv
    obtain ⟨r0, h1, rfl⟩ := List.mem_map.1 hv
    rw [valR_len, even_all gm.ev r0 h1]; exact hsq.symm
  have gn : Gm 1048577 (nm (valM m)) := gm_nm gm (by decide)
  have hvl : (valM m).length = n := by rw [valM_len]; exact hn
  have hA := enA_zl gn hvl hvr
  have hK : 2 * bnd n 1048577 + 1 < 1099511627776 := by
    have : (n + 2) * (1048577 + 3) ≤ 1026 * (1048577 + 3) := Nat.mul_le_mul_right _ (by omega)
    unfold bnd; omega
  obtain ⟨P, hP⟩ : ∃ P, P = pel (enA (valM m)) n false ⟨ginit (enA (valM m)) n, enA (valM m), 0⟩ := ⟨_, rfl⟩
  have he := ech_p m gm (by decide) hn hsq.symm hn0 hn0 (by omega) (by omega) hA hK P hP
  have hr := rank_p m gm hn hsq.symm hn0 hn0 (by omega) (by omega) hA hK P hP
  have hd := Det1_p (valM m) (n := n) (K := 1048577) ⟨rz (by decide), by rw [ofR_nrm]; decide, gn.g, gn.ev, gn.k, by rw [ofR_nrm]; decide⟩ hvl hvr hn0 (by omega) hA hK
  have hno := norm11_p m gl gm (by decide) (by omega) (by have := hm.vfl; omega)
  have hPI : PI (enA (valM m)) n 1048577 false (P n) := hP ▸ (PI.init hA).pel hA (by omega) n
  have hla : (P n).s.piv.length = n → dtZ (enA (valM m)) n = if (P n).sw % 2 = 1 then -(P n).T (oo (P n).s.out (n - 1)) (n - 1) else (P n).T (oo (P n).s.out (n - 1)) (n - 1) := fun h => by
    rw [hP] at h ⊢
    exact dtZ_last hA (by omega) hn0 h
  have hol := hPI.g.len
  have hkr := hPI.g.k
  have hb := hPI.b
  have hom := hPI.g.mem
  have hlen : (nm (valM m)).2.length = n := by rw [nm_len]; exact hvl
  generalize dtZ (enA (valM m)) n = d at *
  generalize P n = p at *
  have hst : oo p.s.out (n - 1) < n := hom _ (oo_mem (by omega))
  have hbz := hb (oo p.s.out (n - 1)) (n - 1) hst
  have hvl2 : (vrw p.T n p.s.out).length = n := by rw [vrw_len, hol]
  have hrow : (vrw p.T n p.s.out)[n - 1]? = some [.sl (zes (zrw p.T n (oo p.s.out (n - 1))))] := by
    unfold vrw
    rw [List.getElem?_map, List.getElem?_eq_getElem (by omega), oo_get (by omega)]; rfl
  have hrl : (zrw p.T n (oo p.s.out (n - 1))).length = n := zrw_len _ _ _
  have hx : (zes (zrw p.T n (oo p.s.out (n - 1))))[n - 1]? = some (zel (nrm (p.T (oo p.s.out (n - 1)) (n - 1)))) := zes_get _ (by omega)
  have hzl : (zes (zrw p.T n (oo p.s.out (n - 1)))).length = n := by rw [zes_len]; exact hrl
  generalize p.T (oo p.s.out (n - 1)) (n - 1) = x at *
  generalize zes (zrw p.T n (oo p.s.out (n - 1))) = Z at *
  generalize vrw p.T n p.s.out = V at *
  have hof := of3_1
  have hnm := num12_p 0
  have haw := awake12_p
  obtain ⟨M, hM⟩ : ∃ M, M = nm (valM m) := ⟨_, rfl⟩
  rw [← hM] at hno hd hlen
  obtain ⟨Md, Mn⟩ := M
  have hlen : Mn.length = n := hlen
  have hd : PCall Tryz.prog 26 [.d (.agg [.v (.bool (nrm 1).1), .sl (les (nrm 1).2), .sl (rws Mn)])] (.tup [.d (qd (nq (d : Rat))), .d (.v (.int .i64 0))]) := hd
  have hn0z : ¬ (n : Int) - 1 < 0 := by omega
  have hnz : ((n : Int) - 1).toNat = n - 1 := by omega
  have hswt : ((p.sw : Int)).tmod 2 = ((p.sw % 2 : Nat) : Int) := by rw [Int.tmod_eq_emod_of_nonneg (by omega)]; omega
  refine pcall_of hmo Tryz.func4 rfl (by kernel_rfl) (by simp [Tryz.ntmps4]) ?_; simp -implicitDefEqProofs [go_sem, Tryz.ntmps4]; (repeat refine And.intro (by first | decide +kernel | omega | kernel_rfl) ?_); (try decide +kernel)
  refine .inl ⟨_, h1, ?_⟩; simp -implicitDefEqProofs [go_sem]; (repeat refine And.intro (by first | decide +kernel | omega | kernel_rfl) ?_); (try decide +kernel)
  refine .inl ⟨_, hno, ?_⟩; simp -implicitDefEqProofs [go_sem]; (repeat refine And.intro (by first | decide +kernel | omega | kernel_rfl) ?_); (try decide +kernel)
  refine .inl ⟨_, he, ?_⟩; simp -implicitDefEqProofs [go_sem]; (repeat refine And.intro (by first | decide +kernel | omega | kernel_rfl) ?_); (try decide +kernel)
  refine .inl ⟨_, hof, ?_⟩; simp -implicitDefEqProofs [go_sem]; (repeat refine And.intro (by first | decide +kernel | omega | kernel_rfl) ?_); (try decide +kernel)
  refine .inl ⟨_, hd, ?_⟩; simp -implicitDefEqProofs [go_sem]; (repeat refine And.intro (by first | decide +kernel | omega | kernel_rfl) ?_); (try decide +kernel)
  refine .inl ⟨_, hnm, ?_⟩; simp -implicitDefEqProofs [go_sem]; (repeat refine And.intro (by first | decide +kernel | omega | kernel_rfl) ?_); (try decide +kernel)
  have hx2 := fun h => (List.getElem_eq_iff (h := h)).2 hx
  have hrow2 := fun h => (List.getElem_eq_iff (h := h)).2 hrow
  have hn1z : (0 : Int) ≤ (n : Int) - 1 := by omega
  have hn2z : ((n : Int) - 1) < (n : Int) := by omega
  have hn3 : n - 1 < n := by omega
  have hng := neg3_n x (by omega)
  refine .inl ⟨_, hnm, ?_⟩; simp -implicitDefEqProofs [go_sem, hvl2, hlen, undef, hrow, hrow2, hzl, hx, hx2, hnz, hn1z, hn2z, hn3]; (repeat refine And.intro (by first | decide +kernel | omega | kernel_rfl) ?_); (try decide +kernel)
  by_cases hsw : p.sw % 2 = 1
  · have hz : ((p.sw : Int)).tmod 2 = 1 := by rw [hswt, hsw]; rfl
    have hi5 := int5_n (-x) (by rw [zl_neg]; omega)
    simp -implicitDefEqProofs [go_sem, hz]; (repeat refine And.intro (by first | decide +kernel | omega | kernel_rfl) ?_); (try decide +kernel)
    refine .inl ⟨_, hng, ?_⟩; simp -implicitDefEqProofs [go_sem]; (repeat refine And.intro (by first | decide +kernel | omega | kernel_rfl) ?_); (try decide +kernel)
    refine .inl ⟨_, hr, ?_⟩; simp -implicitDefEqProofs [go_sem]; (repeat refine And.intro (by first | decide +kernel | omega | kernel_rfl) ?_); (try decide +kernel)
    by_cases hk : p.s.piv.length < n
    · have hkz : (p.s.piv.length : Int) < (n : Int) := by omega
      refine .inl ⟨_, hnm, ?_⟩; simp -implicitDefEqProofs [go_sem, hvl2, hk, hkz, undef]; (repeat refine And.intro (by first | decide +kernel | omega | kernel_rfl) ?_); (try decide +kernel)
      refine .inl ⟨_, haw, ?_⟩; simp -implicitDefEqProofs [go_sem]; (repeat refine And.intro (by first | decide +kernel | omega | kernel_rfl) ?_); (try decide +kernel)
    · have hkz : ¬ (p.s.piv.length : Int) < (n : Int) := by omega
      have hd2 := hla (by omega)
      rw [if_pos hsw] at hd2
      have hb2 : zl d < 1099511627775 := by rw [hd2, zl_neg]; omega
      have hsm := same5_p (nq (d : Rat)) (nq ((-x : Int) : Rat)) (rz_nq hb2) (rz_nq (by rw [zl_neg]; omega))
      rw [decide_eq_true (by rw [hd2])] at hsm
      refine .inl ⟨_, hnm, ?_⟩; simp -implicitDefEqProofs [go_sem, hvl2, hk, hkz, undef]; (repeat refine And.intro (by first | decide +kernel | omega | kernel_rfl) ?_); (try decide +kernel)
      refine .inl ⟨_, hi5, ?_⟩; simp -implicitDefEqProofs [go_sem]; (repeat refine And.intro (by first | decide +kernel | omega | kernel_rfl) ?_); (try decide +kernel)
      refine .inl ⟨_, hsm, ?_⟩; simp -implicitDefEqProofs [go_sem]; (repeat refine And.intro (by first | decide +kernel | omega | kernel_rfl) ?_); (try decide +kernel)
      refine .inl ⟨_, haw, ?_⟩; simp -implicitDefEqProofs [go_sem]; (repeat refine And.intro (by first | decide +kernel | omega | kernel_rfl) ?_); (try decide +kernel)
  · have hz : ¬ ((p.sw : Int)).tmod 2 = 1 := by rw [hswt]; omega
    have hi5 := int5_n x (by omega)
    simp -implicitDefEqProofs [go_sem, hz]; (repeat refine And.intro (by first | decide +kernel | omega | kernel_rfl) ?_); (try decide +kernel)
    refine .inl ⟨_, hr, ?_⟩; simp -implicitDefEqProofs [go_sem]; (repeat refine And.intro (by first | decide +kernel | omega | kernel_rfl) ?_); (try decide +kernel)
    by_cases hk : p.s.piv.length < n
    · have hkz : (p.s.piv.length : Int) < (n : Int) := by omega
      refine .inl ⟨_, hnm, ?_⟩; simp -implicitDefEqProofs [go_sem, hvl2, hk, hkz, undef]; (repeat refine And.intro (by first | decide +kernel | omega | kernel_rfl) ?_); (try decide +kernel)
      refine .inl ⟨_, haw, ?_⟩; simp -implicitDefEqProofs [go_sem]; (repeat refine And.intro (by first | decide +kernel | omega | kernel_rfl) ?_); (try decide +kernel)
    · have hkz : ¬ (p.s.piv.length : Int) < (n : Int) := by omega
      have hd2 := hla (by omega)
      rw [if_neg hsw] at hd2
      have hb2 : zl d < 1099511627775 := by rw [hd2]; omega
      have hsm := same5_p (nq (d : Rat)) (nq (x : Rat)) (rz_nq hb2) (rz_nq (by omega))
      rw [decide_eq_true (by rw [hd2])] at hsm
      refine .inl ⟨_, hnm, ?_⟩; simp -implicitDefEqProofs [go_sem, hvl2, hk, hkz, undef]; (repeat refine And.intro (by first | decide +kernel | omega | kernel_rfl) ?_); (try decide +kernel)
      refine .inl ⟨_, hi5, ?_⟩; simp -implicitDefEqProofs [go_sem]; (repeat refine And.intro (by first | decide +kernel | omega | kernel_rfl) ?_); (try decide +kernel)
      refine .inl ⟨_, hsm, ?_⟩; simp -implicitDefEqProofs [go_sem]; (repeat refine And.intro (by first | decide +kernel | omega | kernel_rfl) ?_); (try decide +kernel)
      refine .inl ⟨_, haw, ?_⟩; simp -implicitDefEqProofs [go_sem]; (repeat refine And.intro (by first | decide +kernel | omega | kernel_rfl) ?_); (try decide +kernel)
theorem last_p (m : MR) (hm : Im m) : PCall Tryz.prog 4 [.d (md m)] (.one (.d (.v (.bool true)))) := by
  by_cases hs : sqE m = 0
  · exact last_y m hm hs
  · have h1 := square12_p m hm.d hm.g
    have haw := awake12_p
    refine pcall_of hmo Tryz.func4 rfl (by kernel_rfl) (by simp [Tryz.ntmps4]) ?_; simp -implicitDefEqProofs [go_sem, Tryz.ntmps4]; (repeat refine And.intro (by first | decide +kernel | omega | kernel_rfl) ?_); (try decide +kernel)
    refine .inl ⟨_, h1, ?_⟩; simp -implicitDefEqProofs [go_sem, hs]; (repeat refine And.intro (by first | decide +kernel | omega | kernel_rfl) ?_); (try decide +kernel)
    refine .inl ⟨_, haw, ?_⟩; simp -implicitDefEqProofs [go_sem]; (repeat refine And.intro (by first | decide +kernel | omega | kernel_rfl) ?_); (try decide +kernel)
theorem last_a (m : MR) {b0 : Nat} (h0 : MatM m b0) (hb : b0 ≤ 1048576) : PCall Tryz.prog 4 [.d (md m)] (.one (.d (.v (.bool true)))) :=
  last_p m (.of h0 hb)
end Go.Mt
/-
  A part of the proof.
-/
set_option linter.unusedSimpArgs false
set_option linter.unusedVariables false
namespace Go.Proofs.YtpoocfmphcgmkaaGreat.bareissLast
open Go.ChangeShapes Go.WideShapes Go.ChangeAt Go.RowKit Go.Pm Go.Mt
theorem own : ownKnob Tryz.prog.godebug = none := by kernel_rfl
set_option maxRecDepth 100000 in
theorem contract (H : Type) (enc : TypeId × Value → H) (W : World) (base : Nat) (args : Array Value) (ds gs : List (DataW H)) (before : List MemPlace)
    (hval : ∀ (j : Nat) t v, Tryz.f4.params[j]? = some t → args[j]? = some v → Value.okWide Tryz.prog W .any base t v)
    (hW : DataW.Whole enc Tryz.prog Tryz.f4.params.toList Rows.bareissLastSpec.vars false W args.toList ds gs before) (hk : Rows.uptoSmall H (ds ++ gs) = true) :
    Calls Tryz.prog 4 args W fun e W' => ∃ v, e = .returned v ∧ Rows.bareissLastSpec.post enc Tryz.prog Tryz.f4 false true false false W args v W' := by
  have hW' := hW
  obtain ⟨p, q, hA0, hV, rfl, hfz, hnd⟩ := hW
  have hA : DataW.TrodAll enc Tryz.prog W 0 (fun _ => true) true Tryz.f4.params.toList args.toList ds p := hA0
  rw [Tryz.params4] at hA hval
  obtain ⟨v0, vs0, d0, ds0, p0, q0, hargs, rfl, rfl, h0, r0⟩ := trodAll_cons hA
  obtain ⟨rfl, rfl, rfl⟩ := trodAll_nil r0
  obtain rfl : args = #[v0] := by cases args; simp_all
  obtain ⟨rfl, rfl⟩ := trodVars_none hV
  have hb : Rows.uptoBulk d0 ≤ 1048576 := by
    have h := of_decide_eq_true hk
    simp only [List.append_nil, Rows.uptoBulkAll] at h
    omega
  have hb0 : Rows.uptoBulk d0 ≤ 1048576 := by omega
  obtain ⟨cs0, rfl, _⟩ := okWide_struct Tryz.underlying33 (hval 0 33 v0 rfl rfl)
  obtain ⟨fuel0, hf0⟩ := h0
  obtain ⟨x0, hr0, hM0⟩ := giv_mat (K := 1048576) (by decide) fuel0 _ _ hf0 (fun b o hm => hfz b o (List.mem_append_left _ (List.mem_append_left _ hm))) hb0
  have hlaw := last_a x0 hM0 hb
  refine law_post (tb := 4) (xs := [.d (md x0)]) hW' rfl (by kernel_rfl) (by rw [Tryz.params4]; intro t ht; simp at ht; first | (subst ht; exact ⟨by kernel_rfl, of_decide_eq_true (by kernel_rfl)⟩) | (rcases ht with rfl | rfl <;> exact ⟨by kernel_rfl, of_decide_eq_true (by kernel_rfl)⟩)) Tryz.underlying4 (by kernel_rfl) (fun H ds hd => ?_) hlaw rfl (fun j p v h1 h2 => ?_)
  · match ds, hd with
    | [e0], _ => exact ⟨rfl, rfl, rfl⟩
  · cases j with
    | zero => cases h1; cases h2; exact .d (RdC.agg hr0)
    | succ j =>
      cases h1
end Go.Proofs.YtpoocfmphcgmkaaGreat.bareissLast
/-
  A part of the proof.
-/
set_option linter.unusedSimpArgs false
set_option linter.unusedVariables false
namespace Go.Proofs.YtpoocfmphcgmkaaGreat.bareissLast
open Go.ChangeShapes Go.WideShapes Go.ChangeAt Go.RowKit Go.Pm Go.Mt
set_option maxRecDepth 100000 in
theorem lifted (os : Os) (started : os.Started) (H : Type) (enc : TypeId × Value → H) (F : Stop.Interp) :
    ReturnsInHanded {} Tryz.checked os 4 .any ((Rows.OpenSpec.upto Rows.bareissLastSpec).pre6 enc Tryz.prog Tryz.f4 Rows.bareissLastUptoRow.domain false) (((Rows.OpenSpec.upto Rows.bareissLastSpec).at F).post enc Tryz.prog Tryz.f4 false true false false) := by
  refine returnsInHanded_of_cond (C := Tryz.checked) (s := (Rows.OpenSpec.upto Rows.bareissLastSpec)) (k := Rows.uptoSmall) rfl own started (by kernel_rfl) Tryz.func4
    (OpenSpec.witness (enc := enc) (C := Tryz.checked) (s := (Rows.OpenSpec.upto Rows.bareissLastSpec)) (k := Rows.uptoSmall) rfl false ⟨#[], #[.agg #[.bool false, .slice none 0 0, .slice none 0 0]], []⟩ 8 (by kernel_rfl) (by kernel_rfl) (by kernel_rfl)
      (x := ([.agg [.agg [.lit (.bool false), .nil], .nil]], [], [])) (by kernel_rfl) rfl (by kernel_rfl)) ?_
  intro W base args ds gs before hval hW _ hk _
  exact contract H enc W base args ds gs before hval hW hk
end Go.Proofs.YtpoocfmphcgmkaaGreat.bareissLast
