/-
  A part of the proof.
-/
import Derived.Test.YtpoocfmphcgmkaaGreatBre43
import Derived.Test.YtpoocfmphcgmkaaGreatBre44
import Derived.Test.YtpoocfmphcgmkaaGreatBre40
import Derived.Test.YtpoocfmphcgmkaaGreatBre41
import Derived.Test.YtpoocfmphcgmkaaGreatProg
import Derived.WalkKit
import Derived.Deep.LoopGhost
import Derived.Deep.RegionLaw
import Derived.Lib.Walk
import Derived.Lib.SliceRun
import Derived.Lib.LazyBuf
import Derived.Shelf.RegionOpenPlain
import Derived.Sort.WalkB12
import Derived.Test.YtpoocfmphcgmkaaGreatBre24
import Derived.Test.YtpoocfmphcgmkaaGreatBre36
import Derived.Test.YtpoocfmphcgmkaaGreatBre39
set_option linter.unusedVariables false
set_option linter.unusedSimpArgs false
set_option linter.unusedSimpArgs false
set_option linter.unusedVariables false
namespace Go.Mt
open Go Go.Pm Go.Proofs
def wo (R : List (List ZR)) (r c i : Nat) : List (List ZR) := ((R.take i).eraseIdx r).map fun row => row.eraseIdx c
theorem wo_succ {R : List (List ZR)} {r c i : Nat} (hi : i < R.length) : wo R r c (i + 1) = if i = r then wo R r c i else wo R r c i ++ [R[i].eraseIdx c] := by
  unfold wo
  rw [List.take_succ_eq_append_getElem hi]
  have hl : (R.take i).length = i := by simp; omega
  by_cases h : i = r
  · rw [if_pos h, List.eraseIdx_append_of_length_le (by omega), List.eraseIdx_of_length_le (l := R.take i) (by omega), show r - (R.take i).length = 0 by omega]
    simp
  · rw [if_neg h]
    by_cases h2 : i < r
    · rw [List.eraseIdx_of_length_le (by simp; omega), List.eraseIdx_of_length_le (l := R.take i) (by omega), List.map_append]
      rfl
    · rw [List.eraseIdx_append_of_lt_length (by omega)]
      rw [List.map_append]; rfl
theorem wo_le (R : List (List ZR)) (r c i : Nat) : (wo R r c i).length ≤ i := by
  unfold wo
  rw [List.length_map]
  exact Nat.le_trans (List.length_eraseIdx_le ..) (List.length_take_le ..)
theorem zes_del (l : List ZR) (c : Nat) : (zes l).take c ++ (zes l).drop (c + 1) = zes (l.eraseIdx c) := by
  unfold zes
  rw [List.eraseIdx_eq_take_drop_succ]
  simp
set_option maxRecDepth 100000 in
set_option maxHeartbeats 1000000 in
theorem without_p (m : MR) (r c : Nat) (hc : ∀ row ∈ m.2, c < row.length ∧ row.length < 549755813888) (hr : r < 549755813888) (hn : m.2.length < 549755813888) :
    PCall Tryz.prog 146 [.d (md m), .d (.v (.int .i64 (r : Int))), .d (.v (.int .i64 (c : Int)))] (.one (.d (md (m.1, wo m.2 r c m.2.length)))) := by
  refine pcall_of hmo Tryz.func146 rfl (by kernel_rfl) (by simp [Tryz.ntmps146]) ?_; simp -implicitDefEqProofs [go_sem, Tryz.ntmps146]; (repeat refine And.intro (by first | decide +kernel | omega | kernel_rfl) ?_); (try decide +kernel)
  refine loop_rule [.arrB 20 2 27 1] (fun (i : Nat) => ⟨37, [(0, .d (md m)), (1, intP .i64 (r : Int)), (2, intP .i64 (c : Int)), (3, .pr 0 0 0 0), (6, .pr 4 0 0 0), (7, .pr 20 0 0 0), (14, .d (.sl (rws m.2))), (15, intP .i64 (m.2.length : Int)), (16, intP .i64 (i : Int))],
      [(20, .box [.d (.v (.bool m.1.1)), .d (.sl (les m.1.2)), .sr 44 (wo m.2 r c i).length]), (44, .arr ⟨27, 1, (wo m.2 r c i).length, false, rws (wo m.2 r c i)⟩), (4, .box [.d (.v (.bool false)), .nl, .nl])], 1000⟩)
    (fun i => i ≤ m.2.length) (fun i => m.2.length - i) 0 (Nat.zero_le _) (by simp) (by simp -implicitDefEqProofs [go_sem, rws, wo]) (fun i hi => ?_)
  by_cases hil : i < m.2.length
  · have hws := wo_succ (r := r) (c := c) hil
    have hci := hc _ (List.getElem_mem hil)
    have hwl := wo_le m.2 r c i
    by_cases hir : i = r
    · rw [if_pos hir] at hws
      subst hir
      simp -implicitDefEqProofs [go_sem, hil]; (repeat refine And.intro (by first | decide +kernel | omega | kernel_rfl) ?_); (try decide +kernel)
      refine ⟨i + 1, by omega, by omega, by omega, ?_, ?_⟩ <;> rw [hws]
    · rw [if_neg hir] at hws
      have hirz : ¬ (i : Int) = (r : Int) := by omega
      have hcl := clone_p m.2[i] (fun h => by rw [h] at hci; simp at hci) (by omega)
      simp -implicitDefEqProofs [go_sem, hil, hir, hirz]; (repeat refine And.intro (by first | decide +kernel | omega | kernel_rfl) ?_); (try decide +kernel)
      have hdl := fun id nid => del_call (id := id) (ver := 0) (nid := nid) (el := 26) (es := zes m.2[i]) (i := c) (j := c + 1) (by omega) (by rw [zes_len]; omega)
      rw [zes_del] at hdl
      have e1 : ((c + 1 : Nat) : Int) = (c : Int) + 1 := by omega
      simp only [e1] at hdl
      refine .inl ⟨_, hcl, ?_⟩; simp -implicitDefEqProofs [go_sem, hil, hir, hirz]; (repeat refine And.intro (by first | decide +kernel | omega | kernel_rfl) ?_); (try decide +kernel)
      refine .inr ⟨_, _, _, hdl _ _, by simp -implicitDefEqProofs [go_sem], ?_⟩
      simp -implicitDefEqProofs [go_sem, hil, hir, hirz]
      refine ⟨by omega, by kernel_rfl, ?_⟩
      refine ⟨by omega, i + 1, by omega, by omega, by omega, by rw [hws, List.length_append]; rfl, ?_⟩
      rw [hws]
      unfold rws
      rw [List.map_append]
      rfl
  · obtain rfl : i = m.2.length := by omega
    simp -implicitDefEqProofs [go_sem]; (repeat refine And.intro (by first | decide +kernel | omega | kernel_rfl) ?_); (try decide +kernel)
end Go.Mt
/-
  A part of the proof.
-/
set_option linter.unusedSimpArgs false
set_option linter.unusedVariables false
namespace Go.Mt
open Go Go.Pm Go.Proofs
/-- a minor with one number -/
theorem minor1_p (x : Int) (hx : zl x < 100) (hd : dtZ (fun _ _ => x) 1 = x) : PCall Tryz.prog 124 [.d (md (nrm 1, [[nrm x]]))] (.one (.d (qd (nq (x : Rat))))) := by
  have hz : zl (ofR (nrm x)) < 100 := by rw [ofR_nrm]; exact hx
  have hg : Grw [[nrm x]] := by
    refine ⟨fun r hr z hz2 => ?_, by simp, fun r hr => ?_⟩
    · rw [List.mem_singleton.1 hr] at hz2
      rw [List.mem_singleton.1 hz2]
      exact rz (by omega)
    · rw [List.mem_singleton.1 hr]; exact (by decide : 1 < 549755813888)
  have h1 := normm_p (nrm 1, [[nrm x]]) (rz (by decide)) hg (by unfold checkE; rw [if_neg (by rw [ofR_nrm]; decide)]; rfl)
  have e : nm (valM (nrm 1, [[nrm x]])) = (nrm 1, [[nrm x]]) := by
    unfold valM
    rw [ofR_nrm]
    have e2 : zz [[nrm x]] = [[x]] := by simp [zz, ofR_nrm]
    rw [e2, nm_int]; rfl
  rw [e] at h1
  have h2 := det1_p [[nrm x]] (fun _ _ => x) (n := 1) (K := 100) rfl (fun k h => by simp at h; subst h; rfl) (by decide) (by decide) (fun _ _ _ => by omega) (by decide)
  rw [hd] at h2
  refine pcall_of hmo Tryz.func124 rfl (by kernel_rfl) (by simp [Tryz.ntmps124]) ?_; simp -implicitDefEqProofs [go_sem, Tryz.ntmps124]; (repeat refine And.intro (by first | decide +kernel | omega | kernel_rfl) ?_); (try decide +kernel)
  refine .inl ⟨_, h1, ?_⟩; simp -implicitDefEqProofs [go_sem]; (repeat refine And.intro (by first | decide +kernel | omega | kernel_rfl) ?_); (try decide +kernel)
  refine .inl ⟨_, h2, ?_⟩; simp -implicitDefEqProofs [go_sem, qd]; (repeat refine And.intro (by first | decide +kernel | omega | kernel_rfl) ?_); (try decide +kernel)
theorem dt1 : dtZ (fun _ _ => 1) 1 = 1 ∧ dtZ (fun _ _ => 2) 1 = 2 ∧ dtZ (fun _ _ => 3) 1 = 3 ∧ dtZ (fun _ _ => 4) 1 = 4 := by decide +kernel
/-- the document's example -/
def exA : Nat → Nat → Int := fun i j => if i = 0 then (if j = 0 then 1 else 2) else (if j = 0 then 3 else 4)
theorem dt2 : dtZ exA 2 = -2 := by decide +kernel
end Go.Mt
/-
  A part of the proof.
-/
set_option linter.unusedSimpArgs false
set_option linter.unusedVariables false
namespace Go.Mt
open Go Go.Pm Go.Proofs
theorem evenR_p (V : List (List Rat)) {c : Nat} (hc : ∀ r ∈ V, r.length = c) (hn : V.length < 549755813888) (hcn : c < 549755813888) : PCall Tryz.prog 191 [.d (.sl (qrs V))] (.one (.d (.v (.bool true)))) := by
  refine pcall_of hmo Tryz.func191 rfl (by kernel_rfl) (by simp [Tryz.ntmps191]) ?_; simp -implicitDefEqProofs [go_sem, Tryz.ntmps191]; (repeat refine And.intro (by first | decide +kernel | omega | kernel_rfl) ?_); (try decide +kernel)
  refine loop_rule [] (fun (k : Nat) => ⟨19, [(0, .d (.sl (qrs V))), (2, .d (.v (.bool false))), (5, .d (.sl (qrs V))), (6, intP .i64 (V.length : Int)), (7, intP .i64 (k : Int))], [], 1000⟩)
    (fun k => k ≤ V.length) (fun k => V.length - k) 0 (Nat.zero_le _) (by simp) (by simp -implicitDefEqProofs [go_sem]) (fun k hk => ?_)
  by_cases hkl : k < V.length
  · have h0 : 0 < V.length := by omega
    have e0 : ∀ hh : 0 < V.length, (V[0]'hh).length = c := fun hh => hc _ (List.getElem_mem hh)
    have hr : V[k].length = c := hc _ (List.getElem_mem hkl)
    simp -implicitDefEqProofs [go_sem, hkl, h0, e0, hr]; (repeat refine And.intro (by first | decide +kernel | omega | kernel_rfl) ?_); (try decide +kernel)
    exact ⟨k + 1, by omega, by omega, by omega⟩
  · obtain rfl : k = V.length := by omega
    simp -implicitDefEqProofs [go_sem]; (repeat refine And.intro (by first | decide +kernel | omega | kernel_rfl) ?_); (try decide +kernel)
theorem flat_take {α : Type} {c : Nat} : ∀ (l : List (List α)), (∀ r ∈ l, r.length = c) → ∀ i (h : i < l.length), (l.flatten.drop (i * c)).take c = l[i]
  | [], _, i, h => absurd h (by simp)
  | r :: l, hc, 0, h => by
    have := hc r (List.mem_cons_self ..)
    rw [Nat.zero_mul, List.drop_zero, List.flatten_cons, ← this, List.take_left]; rfl
  | r :: l, hc, i + 1, h => by
    have h1 := hc r (List.mem_cons_self ..)
    have h2 := flat_take l (fun x hx => hc x (List.mem_cons_of_mem _ hx)) i (by simpa using h)
    rw [List.flatten_cons, show (i + 1) * c = r.length + i * c by rw [h1, Nat.add_mul]; omega, List.drop_append]
    rw [show (r.drop (r.length + i * c)) = [] from List.drop_eq_nil_of_le (by omega), List.nil_append, show r.length + i * c - r.length = i * c by omega]
    exact h2
theorem flat_len {α : Type} {c : Nat} : ∀ (l : List (List α)), (∀ r ∈ l, r.length = c) → l.flatten.length = l.length * c
  | [], _ => by simp
  | r :: l, hc => by
    rw [List.flatten_cons, List.length_append, hc r (List.mem_cons_self ..), flat_len l (fun x hx => hc x (List.mem_cons_of_mem _ hx)), List.length_cons, Nat.add_mul]; omega
set_option maxRecDepth 100000 in
set_option maxHeartbeats 2000000 in
theorem qfrom_p (V : List (List Rat)) {c : Nat} (hc : ∀ r ∈ V, r.length = c) (hn : V.length < 549755813888) (hcn : c < 549755813888) (hf : V.flatten.length < 549755813888) (hq : ∀ q ∈ V.flatten, ql q < 549755813888) (hD : nl (comDen V.flatten) < 549755813888) :
    PCall Tryz.prog 147 [.d (.sl (qrs V))] (.tup [.d (md (nm V)), .d (.v (.int .i64 0))]) := by
  have hev := evenR_p V hc hn hcn
  have hcm := common_p (V.flatten.map nq) (fun x hx => by
    obtain ⟨q, hq2, rfl⟩ := List.mem_map.1 hx
    have := Gq.n q (by have := hq q hq2; omega)
    exact ⟨this.rq, this.ne⟩) (by rw [List.length_map]; exact hf) (fun x hx => by
    obtain ⟨q, hq2, rfl⟩ := List.mem_map.1 hx
    rw [ofQ_nq]; exact hq q hq2)
  have e : (V.flatten.map nq).map ofQ = V.flatten := by
    rw [List.map_map]
    conv => rhs; rw [← List.map_id V.flatten]
    exact List.map_congr_left fun q _ => ofQ_nq q
  rw [e] at hcm
  have hcm := hcm hD
  obtain ⟨N, hN⟩ : ∃ N, N = V.flatten.map fun q => nrm (comNum (comDen V.flatten) q) := ⟨_, rfl⟩
  rw [← hN] at hcm
  obtain ⟨rs, hrs⟩ : ∃ rs, rs = (nm V).2 := ⟨_, rfl⟩
  have hrsl : rs.length = V.length := by rw [hrs, nm_len]
  have hNf : N = rs.flatten := by
    rw [hN, hrs]
    unfold nm nrmZ nrmD
    show _ = (List.map _ (List.map _ V)).flatten
    rw [List.map_map, List.map_flatten]
    congr 1
    refine List.map_congr_left fun r _ => ?_
    simp [Function.comp]
  have hrsc : ∀ r ∈ rs, r.length = c := fun r hr => by
    rw [hrs] at hr
    unfold nm nrmZ at hr
    obtain ⟨r1, h1, rfl⟩ := List.mem_map.1 hr
    obtain ⟨r2, h2, rfl⟩ := List.mem_map.1 h1
    rw [List.length_map, List.length_map]; exact hc r2 h2
  have hNl : N.length = V.length * c := by rw [hNf, flat_len rs hrsc, hrsl]
  have hrz : ∀ r ∈ rs, ∀ z ∈ r, Rz z := fun r hr z hz => by
    have hz2 : z ∈ N := by rw [hNf]; exact List.mem_flatten.2 ⟨r, hr, hz⟩
    rw [hN] at hz2
    obtain ⟨q, hq2, rfl⟩ := List.mem_map.1 hz2
    have h6 := nl_comNum (K := 549755813887) (KL := 549755813887) (D := comDen V.flatten) (q := q) (by have := ql_num q; have := hq q hq2; unfold zl at *; omega) (by omega)
    exact rz (by unfold zl; omega)
  have hle0 := fun i (hi : i < V.length) j hj => fltIn_le (V := V) hi (j := j) hj
  have hnr := hn
  have hrl : ∀ (i : Nat) (hi : i < V.length), V[i].length < 549755813888 := fun i hi => by
    rw [hc _ (List.getElem_mem hi)]; exact hcn
  refine pcall_of hmo Tryz.func147 rfl (by kernel_rfl) (by simp [Tryz.ntmps147]) ?_; simp -implicitDefEqProofs [go_sem, Tryz.ntmps147]; (repeat refine And.intro (by first | decide +kernel | omega | kernel_rfl) ?_); (try decide +kernel)
  refine .inr ⟨[], _, _, eachR_h _ _, by simp -implicitDefEqProofs [go_sem], ?_⟩
  simp -implicitDefEqProofs [go_sem]; (repeat refine And.intro (by first | decide +kernel | omega | kernel_rfl) ?_); (try decide +kernel)
  refine ⟨_, rfl, by decide +kernel, ?_⟩
  simp -implicitDefEqProofs [go_sem]; (repeat refine And.intro (by first | decide +kernel | omega | kernel_rfl) ?_); (try decide +kernel)
  refine loop_rule [.arrB 8 0 56 4] (fun (i : Nat) => ⟨25, [(0, .yd), (7, .d (.sl (qrs V))), (8, intP .i64 (V.length : Int)), (9, intP .i64 (i : Int))],
    [(8, .box [.sr 32 (flt V i).length]), (32, .arr ⟨56, 4, (flt V i).length, false, qes ((flt V i).map nq)⟩), (0, .box [.d (.v (.bool false)), .nl, .nl])], 1000⟩)
    (fun i => i ≤ V.length) (fun i => V.length - i) 0 (Nat.zero_le _) (by simp) (by simp -implicitDefEqProofs [go_sem, flt_zero, qes]) (fun i hi => ?_)
  by_cases hil : i < V.length
  · obtain ⟨row, hrow⟩ : ∃ row, row = V[i] := ⟨_, rfl⟩
    have hrl1 := hrl i hil
    have hle := hle0 i hil
    have hsc := flt_succ hil
    rw [← hrow] at hrl1 hle hsc
    simp -implicitDefEqProofs [go_sem, hil]; (repeat refine And.intro (by first | decide +kernel | omega | kernel_rfl) ?_); (try decide +kernel)
    rw [← hrow]
    refine loop_rule [] (fun (j : Nat) => ⟨25, [(0, .yd), (7, .d (.sl (qrs V))), (8, intP .i64 (V.length : Int)), (9, intP .i64 (i : Int)), (13, .d (.sl (qes (row.map nq)))), (14, intP .i64 (row.length : Int)), (15, intP .i64 (j : Int))],
      [(8, .box [.sr 32 (fltIn V i row j).length]), (32, .arr ⟨56, 4, (fltIn V i row j).length, false, qes ((fltIn V i row j).map nq)⟩), (0, .box [.d (.v (.bool false)), .nl, .nl])], 2000⟩)
      (fun j => j ≤ row.length) (fun j => row.length - j) 0 (Nat.zero_le _) (by simp) (by simp -implicitDefEqProofs [go_sem, fltIn_zero]) (fun j hj => ?_)
    by_cases hjl : j < row.length
    · have h2 := fltIn_len (V := V) (i := i) hjl
      have h3 := hle (j + 1) (by omega)
      simp -implicitDefEqProofs [go_sem, hjl]; (repeat refine And.intro (by first | decide +kernel | omega | kernel_rfl) ?_); (try decide +kernel)
      refine ⟨j + 1, ?_⟩; (repeat' apply And.intro) <;> first | omega | (exact h2.symm) | (exact fltIn_succ hjl rfl) | assumption | rfl
    · obtain rfl : j = row.length := by omega
      rw [hsc]
      simp -implicitDefEqProofs [go_sem]; (repeat refine And.intro (by first | decide +kernel | omega | kernel_rfl) ?_); (try decide +kernel)
      refine ⟨i + 1, ?_⟩; (repeat' apply And.intro) <;> first | omega | assumption | rfl
  · obtain rfl : i = V.length := by omega
    rw [← flt_all] at hcm
    simp -implicitDefEqProofs [go_sem]; (repeat refine And.intro (by first | decide +kernel | omega | kernel_rfl) ?_); (try decide +kernel)
    rw [flt_all] at hcm ⊢
    refine .inl ⟨_, hcm, ?_⟩; simp -implicitDefEqProofs [go_sem]; (repeat refine And.intro (by first | decide +kernel | omega | kernel_rfl) ?_); (try decide +kernel)
    refine .inl ⟨_, hev, ?_⟩; simp -implicitDefEqProofs [go_sem]; (repeat refine And.intro (by first | decide +kernel | omega | kernel_rfl) ?_); (try decide +kernel)
    refine loop_rule [.arr 9 27 1] (fun (i : Nat) => ⟨56, [(2, .pr 0 0 0 0), (3, intP .i64 0), (6, .pr 1028 0 0 0), (7, .d (.sl (zes (N.drop (i * c))))), (9, .sr 1080 i), (33, .d (.sl (qrs V))), (34, intP .i64 (V.length : Int)), (35, intP .i64 (i : Int))],
      [(1080, .arr ⟨27, 1, i, false, rws (rs.take i)⟩), (1028, .box [.d (.v (.bool (nrm (comDen V.flatten : Int)).1)), .d (.sl (les (nrm (comDen V.flatten : Int)).2))]), (0, .box [.d (.v (.bool false)), .nl, .nl])], 3000⟩)
      (fun i => i ≤ V.length) (fun i => V.length - i) 0 (Nat.zero_le _) (by simp) (by simp -implicitDefEqProofs [go_sem, rws]) (fun i hi => ?_)
    by_cases hil : i < V.length
    · have hvl := hc _ (List.getElem_mem hil)
      have hgi := flat_take rs hrsc i (by omega)
      rw [← hNf] at hgi
      have hcl : i * c + c ≤ N.length := by rw [hNl, show i * c + c = (i + 1) * c by rw [Nat.add_mul]; omega]; exact Nat.mul_le_mul_right _ hil
      have hdl : (N.drop (i * c)).length = N.length - i * c := List.length_drop
      have hdd : (N.drop (i * c)).drop c = N.drop ((i + 1) * c) := by rw [List.drop_drop, Nat.add_mul, Nat.one_mul]
      simp -implicitDefEqProofs [go_sem, hil, hvl]; (repeat refine And.intro (by first | decide +kernel | omega | kernel_rfl) ?_); (try decide +kernel)
      refine ⟨i + 1, by omega, by omega, ⟨?_, rfl, by omega⟩, rfl, ?_⟩
      · rw [← hdd]
        unfold zes
        rw [← List.map_drop, List.take_of_length_le (by rw [List.length_map, List.length_drop, hdl]; omega)]
      · have e : List.take c (zes (N.drop (i * c))) = zes rs[i] := by
          rw [← hgi]; unfold zes; rw [List.map_take]
        rw [e, List.take_succ_eq_append_getElem (by omega)]
        unfold rws
        rw [List.map_append]; rfl
    · obtain rfl : i = V.length := by omega
      have hmd := made_q (nrm (comDen V.flatten : Int)) rs (rz (by rw [zl_nat]; omega)) (by rw [ofR_nrm]; have := comDen_pos V.flatten; omega) ⟨hrz, by omega, fun r hr => by rw [hrsc r hr]; exact hcn⟩ (by
        unfold evenB
        rw [List.all_eq_true]
        intro r hr
        have h0 := hrsc _ (List.getElem_mem (show 0 < rs.length by exact List.length_pos_of_mem hr))
        rw [colsOf_get] at h0
        rw [hrsc r hr, h0]; simp)
      have e3 : fracs (ofR (nrm (comDen V.flatten : Int))) (zz rs) = V := by rw [hrs]; exact valM_nm V
      rw [e3] at hmd
      have hta : rs.take V.length = rs := List.take_of_length_le (by omega)
      simp -implicitDefEqProofs [go_sem, hta]; (repeat refine And.intro (by first | decide +kernel | omega | kernel_rfl) ?_); (try decide +kernel)
      refine .inl ⟨_, hmd, ?_⟩; simp -implicitDefEqProofs [go_sem]; (repeat refine And.intro (by first | decide +kernel | omega | kernel_rfl) ?_); (try decide +kernel)
end Go.Mt
/-
  A part of the proof.
-/
set_option linter.unusedSimpArgs false
set_option linter.unusedVariables false
namespace Go.Mt
open Go Go.Pm Go.Proofs
def exR : List (List ZR) := [[nrm 1, nrm 2], [nrm 3, nrm 4]]
def exM (k i : Nat) : Int := if k = 0 then (if i = 0 then 4 else 3) else (if i = 0 then 2 else 1)
theorem wo_ex : wo exR 0 0 2 = [[nrm 4]] ∧ wo exR 0 1 2 = [[nrm 3]] ∧ wo exR 1 0 2 = [[nrm 2]] ∧ wo exR 1 1 2 = [[nrm 1]] := by decide +kernel
theorem exmin_p {k i : Nat} (hk : k < 2) (hi : i < 2) : PCall Tryz.prog 124 [.d (md (nrm 1, wo exR k i 2))] (.one (.d (qd (nq (exM k i : Rat))))) := by
  obtain ⟨h1, h2, h3, h4⟩ := wo_ex
  obtain ⟨d1, d2, d3, d4⟩ := dt1
  rcases (by omega : k = 0 ∨ k = 1) with rfl | rfl <;> rcases (by omega : i = 0 ∨ i = 1) with rfl | rfl
  · rw [h1]; exact minor1_p 4 (by decide) d4
  · rw [h2]; exact minor1_p 3 (by decide) d3
  · rw [h3]; exact minor1_p 2 (by decide) d2
  · rw [h4]; exact minor1_p 1 (by decide) d1
theorem exwo_p {k i : Nat} (hk : k < 2) (hi : i < 2) : PCall Tryz.prog 146 [.d (md (nrm 1, exR)), .d (.v (.int .i64 (k : Int))), .d (.v (.int .i64 (i : Int)))] (.one (.d (md (nrm 1, wo exR k i 2)))) :=
  without_p (nrm 1, exR) k i (fun row hr => by
    have : row.length = 2 := by
      rcases List.mem_cons.1 hr with rfl | hr
      · rfl
      · rw [List.mem_singleton.1 hr]; rfl
    omega) (by omega) (by decide)
/-- the adjugate's entries, row by row -/
def exQ : List (List Rat) := [[4, -2], [-3, 1]]
end Go.Mt
/-
  A part of the proof.
-/
set_option linter.unusedSimpArgs false
set_option linter.unusedVariables false
namespace Go.Mt
open Go Go.Pm Go.Proofs
def exI (i : Nat) : List Rat := exQ[i]?.getD []
theorem exsq_p : PCall Tryz.prog 102 [.d (md (nrm 1, exR))] (.tup [.d (md (nrm 1, exR)), .d (.v (.int .i64 0))]) := by
  have e : nm (valM (nrm 1, exR)) = (nrm 1, exR) := by
    unfold valM
    rw [ofR_nrm, show zz (nrm 1, exR).2 = [[1, 2], [3, 4]] by decide +kernel, nm_int]; rfl
  have hz : ∀ z ∈ exR.flatten, z = nrm 1 ∨ z = nrm 2 ∨ z = nrm 3 ∨ z = nrm 4 := by decide +kernel
  have hk : ∀ r ∈ exR, ∀ z ∈ r, Rz z ∧ zl (ofR z) ≤ 100 := fun r hr z hz2 => by
    rcases hz z (List.mem_flatten.2 ⟨r, hr, hz2⟩) with rfl | rfl | rfl | rfl <;> exact ⟨rz (by decide), by rw [ofR_nrm]; decide⟩
  have h2 : ∀ r ∈ exR, r.length = 2 := by decide +kernel
  have h := square_p (nrm 1, exR) (n := 2) (K := 100) ⟨rz (by decide), by rw [ofR_nrm]; decide, ⟨fun r hr z hz2 => (hk r hr z hz2).1, by decide, fun r hr => by rw [h2 r hr]; decide⟩, by decide +kernel, fun r hr z hz2 => (hk r hr z hz2).2, by rw [ofR_nrm]; decide⟩ rfl rfl (by decide) (by decide)
  rw [e] at h
  exact h
theorem exneg (k i : Nat) : PCall Tryz.prog 141 [.d (qd (nq (exM k i : Rat)))] (.tup [.d (qd (nq (-(exM k i : Rat)))), .d (.v (.int .i64 0))]) := by
  have hb : ql ((exM k i : Int) : Rat) < 100 := by
    unfold exM
    split <;> split <;> decide +kernel
  have h := qneg_p (nq (exM k i : Rat)) (Gq.n _ (by omega)) (by rw [ofQ_nq]; omega)
  rw [ofQ_nq] at h
  exact h
theorem exsn {i k : Nat} (hi : i < 2) (hk : k < 2) : (exI i).take (k + 1) = (exI i).take k ++ [if ((i : Int) + (k : Int)).tmod 2 = 1 then -(exM k i : Rat) else (exM k i : Rat)] := by
  rcases (by omega : k = 0 ∨ k = 1) with rfl | rfl <;> rcases (by omega : i = 0 ∨ i = 1) with rfl | rfl <;> decide +kernel
set_option maxRecDepth 100000 in
set_option maxHeartbeats 2000000 in
theorem exadj_p : PCall Tryz.prog 97 [.d (md (nrm 1, exR))] (.tup [.d (md (nm exQ)), .d (.v (.int .i64 0))]) := by
  have hs := exsq_p
  have hmi := fun k i hk hi => exmin_p (k := k) (i := i) hk hi
  have hwo := fun k i hk hi => exwo_p (k := k) (i := i) hk hi
  have hl : exR.length = 2 := rfl
  generalize exR = R at *
  refine pcall_of hmo Tryz.func97 rfl (by kernel_rfl) (by simp [Tryz.ntmps97]) ?_; simp -implicitDefEqProofs [go_sem, Tryz.ntmps97]; (repeat refine And.intro (by first | decide +kernel | omega | kernel_rfl) ?_); (try decide +kernel)
  refine .inl ⟨_, hs, ?_⟩; simp -implicitDefEqProofs [go_sem, md, hl]; (repeat refine And.intro (by first | decide +kernel | omega | kernel_rfl) ?_); (try decide +kernel)
  refine loop_rule [.arr 5 80 1] (fun (i : Nat) => ⟨60, [(1, .pr 0 0 0 0), (2, .pr 4 0 0 0), (3, intP .i64 0), (5, .sr 68 i), (20, .d (.sl (rws R))), (21, intP .i64 2), (22, intP .i64 (i : Int))],
    [(68, .arr ⟨80, 1, i, false, qrs (exQ.take i)⟩), (0, .box [.d (.v (.bool (nrm 1).1)), .d (.sl (les (nrm 1).2)), .d (.sl (rws R))]), (4, .box [.d (.v (.bool false)), .nl, .nl])], 1000⟩)
    (fun i => i ≤ 2) (fun i => 2 - i) 0 (Nat.zero_le _) (by simp) (by simp -implicitDefEqProofs [go_sem, qrs]) (fun i hi => ?_)
  by_cases hil : i < 2
  · have hilz : (i : Int) < 2 := by omega
    simp -implicitDefEqProofs [go_sem, hil, hilz, hl]; (repeat refine And.intro (by first | decide +kernel | omega | kernel_rfl) ?_); (try decide +kernel)
    refine loop_rule [.arr 7 56 4] (fun (k : Nat) => ⟨60, [(1, .pr 0 0 0 0), (2, .pr 4 0 0 0), (3, intP .i64 0), (5, .sr 68 i), (6, intP .i64 (i : Int)), (7, .sr 1032 k), (20, .d (.sl (rws R))), (21, intP .i64 2), (22, intP .i64 (i : Int)), (26, .d (.sl (rws R))), (27, intP .i64 2), (28, intP .i64 (k : Int))],
      [(1032, .arr ⟨56, 4, k, false, qes (((exI i).take k).map nq)⟩), (68, .arr ⟨80, 1, i, false, qrs (exQ.take i)⟩), (0, .box [.d (.v (.bool (nrm 1).1)), .d (.sl (les (nrm 1).2)), .d (.sl (rws R))]), (4, .box [.d (.v (.bool false)), .nl, .nl])], 2000⟩)
      (fun k => k ≤ 2) (fun k => 2 - k) 0 (Nat.zero_le _) (by simp) (by simp -implicitDefEqProofs [go_sem, qes]) (fun k hk => ?_)
    by_cases hkl : k < 2
    · have hklz : (k : Int) < 2 := by omega
      have h1 := hwo k i hkl hil
      have h2 := hmi k i hkl hil
      simp -implicitDefEqProofs [go_sem, hkl, hklz, hl]; (repeat refine And.intro (by first | decide +kernel | omega | kernel_rfl) ?_); (try decide +kernel)
      refine .inl ⟨_, h1, ?_⟩; simp -implicitDefEqProofs [go_sem, md]; (repeat refine And.intro (by first | decide +kernel | omega | kernel_rfl) ?_); (try decide +kernel)
      refine .inl ⟨_, h2, ?_⟩; simp -implicitDefEqProofs [go_sem]; (repeat refine And.intro (by first | decide +kernel | omega | kernel_rfl) ?_); (try decide +kernel)
      by_cases hp : ((i : Int) + (k : Int)).tmod 2 = 1
      · have h3 := exsn hil hkl
        rw [if_pos hp] at h3
        simp -implicitDefEqProofs [go_sem, hp]; (repeat refine And.intro (by first | decide +kernel | omega | kernel_rfl) ?_); (try decide +kernel)
        refine .inl ⟨_, exneg k i, ?_⟩; simp -implicitDefEqProofs [go_sem, qd]; (repeat refine And.intro (by first | decide +kernel | omega | kernel_rfl) ?_); (try decide +kernel)
        refine ⟨k + 1, by omega, by omega, by omega, ?_⟩
        refine ⟨rfl, ?_⟩
        rw [← List.map_take, ← List.map_take, h3, List.map_append]
        unfold qes
        rw [List.map_append]; rfl
      · have h3 := exsn hil hkl
        rw [if_neg hp] at h3
        simp -implicitDefEqProofs [go_sem, hp]; (repeat refine And.intro (by first | decide +kernel | omega | kernel_rfl) ?_); (try decide +kernel)
        refine ⟨k + 1, by omega, by omega, by omega, ?_⟩
        refine ⟨rfl, ?_⟩
        rw [← List.map_take, ← List.map_take, h3, List.map_append]
        unfold qes
        rw [List.map_append]; rfl
    · obtain rfl : k = 2 := by omega
      simp -implicitDefEqProofs [go_sem, hl]; (repeat refine And.intro (by first | decide +kernel | omega | kernel_rfl) ?_); (try decide +kernel)
      refine ⟨i + 1, by omega, by omega, ⟨rfl, by omega⟩, rfl, ?_⟩
      rcases (by omega : i = 0 ∨ i = 1) with rfl | rfl <;> rfl
  · obtain rfl : i = 2 := by omega
    have hf := qfrom_p exQ (c := 2) (by decide +kernel) (by decide +kernel) (by decide +kernel) (by decide +kernel) (by decide +kernel) (by decide +kernel)
    have e : exQ.take 2 = exQ := rfl
    simp -implicitDefEqProofs [go_sem, hl, e]; (repeat refine And.intro (by first | decide +kernel | omega | kernel_rfl) ?_); (try decide +kernel)
    refine .inl ⟨_, hf, ?_⟩; simp -implicitDefEqProofs [go_sem, md]; (repeat refine And.intro (by first | decide +kernel | omega | kernel_rfl) ?_); (try decide +kernel)
end Go.Mt
/-
  A part of the proof.
-/
set_option linter.unusedSimpArgs false
set_option linter.unusedVariables false
namespace Go.Mt
open Go Go.Pm Go.Proofs
set_option maxRecDepth 100000 in
set_option maxHeartbeats 1000000 in
theorem table12_p (rows : List (List Int)) (hb : ∀ r ∈ rows, ∀ z ∈ r, -9223372036854775808 ≤ z ∧ z ≤ 9223372036854775807) (hn : rows.length < 1000000) (hw : ∀ r ∈ rows, r.length < 1000000) :
    PCall Tryz.prog 96 [.d (.sl (iws rows))] (.one (.d (md (iM rows)))) := by
  obtain ⟨R, hR⟩ : ∃ R : List (List ZR), R = rows.map fun r => r.map nrm := ⟨_, rfl⟩
  have hRl : R.length = rows.length := by rw [hR, List.length_map]
  have e : iM rows = (nrm 1, R) := by rw [hR]; rfl
  rw [e]
  refine pcall_of hmo Tryz.func96 rfl (by kernel_rfl) (by simp [Tryz.ntmps96]) ?_; simp -implicitDefEqProofs [go_sem, Tryz.ntmps96]; (repeat refine And.intro (by first | decide +kernel | omega | kernel_rfl) ?_); (try decide +kernel)
  refine .inl ⟨_, of3_1, ?_⟩; simp -implicitDefEqProofs [go_sem]; (repeat refine And.intro (by first | decide +kernel | omega | kernel_rfl) ?_); (try decide +kernel)
  refine loop_rule [.arrB 12 2 27 1] (fun (i : Nat) => ⟨37, [(2, .pr 0 0 0 0), (3, .pr 12 0 0 0), (11, .d (.sl (iws rows))), (12, intP .i64 (rows.length : Int)), (13, intP .i64 (i : Int))],
      [(12, .box [.d (.v (.bool (nrm 1).1)), .d (.sl (les (nrm 1).2)), .sr 32 i]), (32, .arr ⟨27, 1, i, false, rws (R.take i)⟩), (0, .box [.d (.v (.bool false)), .nl, .nl])], 1000⟩)
    (fun i => i ≤ rows.length) (fun i => rows.length - i) 0 (Nat.zero_le _) (by simp) (by simp -implicitDefEqProofs [go_sem, rws]) (fun i hi => ?_)
  by_cases hil : i < rows.length
  · have hrl := hw _ (List.getElem_mem hil)
    have hRi : R[i]'(by omega) = rows[i].map nrm := by subst hR; simp
    have hbi := hb _ (List.getElem_mem hil)
    have hsn := take_snoc (e := [.sl (zes (rows[i].map nrm))]) rel R (k := i) (by omega) (by rw [hRi]; rfl)
    obtain ⟨r, hr⟩ : ∃ r, r = rows[i] := ⟨_, rfl⟩
    rw [← hr] at hrl hbi hsn
    have hr2 : rows[i] = r := hr.symm
    clear hr
    simp -implicitDefEqProofs [go_sem, hil, hr2]; (repeat refine And.intro (by first | decide +kernel | omega | kernel_rfl) ?_); (try decide +kernel)
    refine loop_rule [.arr 6 26 2] (fun (k : Nat) => ⟨37, [(2, .pr 0 0 0 0), (3, .pr 12 0 0 0), (6, .sr 1032 k), (11, .d (.sl (iws rows))), (12, intP .i64 (rows.length : Int)), (13, intP .i64 (i : Int)), (17, .d (.sl (ies r))), (18, intP .i64 (r.length : Int)), (19, intP .i64 (k : Int))],
        [(1032, .arr ⟨26, 2, k, false, zes ((r.map nrm).take k)⟩), (12, .box [.d (.v (.bool (nrm 1).1)), .d (.sl (les (nrm 1).2)), .sr 32 i]), (32, .arr ⟨27, 1, i, false, rws (R.take i)⟩), (0, .box [.d (.v (.bool false)), .nl, .nl])], 2000⟩)
      (fun k => k ≤ r.length) (fun k => r.length - k) 0 (Nat.zero_le _) (by simp) (by simp -implicitDefEqProofs [go_sem, zes]) (fun k hk => ?_)
    by_cases hkl : k < r.length
    · obtain ⟨h1, h2⟩ := hbi _ (List.getElem_mem hkl)
      have hof := of3_p r[k] h1 h2
      have hsk := take_snoc (e := zel (nrm r[k])) zel (r.map nrm) (k := k) (by rw [List.length_map]; exact hkl) (by rw [List.getElem_map])
      simp -implicitDefEqProofs [go_sem, hkl]; (repeat refine And.intro (by first | decide +kernel | omega | kernel_rfl) ?_); (try decide +kernel)
      refine .inl ⟨_, hof, ?_⟩; simp -implicitDefEqProofs [go_sem, hkl]; (repeat refine And.intro (by first | decide +kernel | omega | kernel_rfl) ?_); (try decide +kernel)
      refine ⟨k + 1, ?_⟩; (repeat' apply And.intro) <;> first | omega | (exact hsk) | assumption | rfl
    · obtain rfl : k = r.length := by omega
      rw [take_all (show (r.map nrm).length = r.length by simp)]
      simp -implicitDefEqProofs [go_sem]; (repeat refine And.intro (by first | decide +kernel | omega | kernel_rfl) ?_); (try decide +kernel)
      refine ⟨i + 1, ?_⟩; (repeat' apply And.intro) <;> first | omega | (exact hsn) | assumption | rfl
  · obtain rfl : i = rows.length := by omega
    rw [take_all hRl]
    simp -implicitDefEqProofs [go_sem]; (repeat refine And.intro (by first | decide +kernel | omega | kernel_rfl) ?_); (try decide +kernel)
theorem exdet_p : PCall Tryz.prog 26 [.d (md (nrm 1, exR))] (.tup [.d (qd (nq ((-2 : Int) : Rat))), .d (.v (.int .i64 0))]) := by
  have hs := exsq_p
  have hd := det1_p exR exA (n := 2) (K := 100) rfl (by decide +kernel) (by decide) (by decide) (fun st j h => by unfold exA; split <;> split <;> decide) (by decide)
  rw [dt2] at hd
  generalize hM : ((nrm 1, exR) : MR) = M at *
  refine pcall_of hmo Tryz.func26 rfl (by kernel_rfl) (by simp [Tryz.ntmps26]) ?_; simp -implicitDefEqProofs [go_sem, Tryz.ntmps26]; (repeat refine And.intro (by first | decide +kernel | omega | kernel_rfl) ?_); (try decide +kernel)
  refine .inl ⟨_, hs, ?_⟩; simp -implicitDefEqProofs [go_sem, md]; (repeat refine And.intro (by first | decide +kernel | omega | kernel_rfl) ?_); (try decide +kernel)
  refine .inl ⟨_, hd, ?_⟩; simp -implicitDefEqProofs [go_sem]; (repeat refine And.intro (by first | decide +kernel | omega | kernel_rfl) ?_); (try decide +kernel)
end Go.Mt
/-
  A part of the proof.
-/
set_option linter.unusedSimpArgs false
set_option linter.unusedVariables false
namespace Go.Mt
open Go Go.Pm Go.Proofs
def exC : MR := iM [[4, -2], [-3, 1]]
theorem exR_iM : iM [[1, 2], [3, 4]] = (nrm 1, exR) := rfl
theorem exC_nm : nm exQ = exC := by decide +kernel
set_option maxRecDepth 100000 in
set_option maxHeartbeats 1000000 in
theorem awake12_p : PCall Tryz.prog 23 [] (.one (.d (.v (.bool true)))) := by
  have t1 := table12_p [[1, 2], [3, 4]] (by decide) (by decide) (by decide)
  have t2 := table12_p [[4, -2], [-3, 1]] (by decide) (by decide) (by decide)
  rw [exR_iM] at t1
  have hd := exdet_p
  have ha := exadj_p
  rw [exC_nm] at ha
  have i4 : Im exC := iM_im _ (by decide +kernel) (by decide) (by decide)
  have hl : Lz exC.1 := by have := i4.ld; unfold Lz; omega
  have hz : ∀ r ∈ exC.2, ∀ z ∈ r, Lz z := fun r hr z hz => by have := (i4.z r hr z hz).2; unfold Lz; omega
  have hs := same11_p exC exC hl hl hz hz (by decide +kernel) (by decide +kernel) (by decide) (by decide)
  rw [decide_eq_true rfl] at hs
  have ho := of5_p (-2) (by decide) (by decide)
  have hq := same5_p (nq ((-2 : Int) : Rat)) (nq ((-2 : Int) : Rat)) (by decide +kernel) (by decide +kernel)
  rw [decide_eq_true rfl] at hq
  have hn := num12_p 0
  have t2 : PCall Tryz.prog 96 _ (.one (.d (md exC))) := t2
  generalize exC = C at *
  generalize ((nrm 1, exR) : MR) = M at *
  refine pcall_of hmo Tryz.func23 rfl (by kernel_rfl) (by simp [Tryz.ntmps23]) ?_; simp -implicitDefEqProofs [go_sem, Tryz.ntmps23]; (repeat refine And.intro (by first | decide +kernel | omega | kernel_rfl) ?_); (try decide +kernel)
  refine .inl ⟨_, t1, ?_⟩; simp -implicitDefEqProofs [go_sem]; (repeat refine And.intro (by first | decide +kernel | omega | kernel_rfl) ?_); (try decide +kernel)
  refine .inl ⟨_, hd, ?_⟩; simp -implicitDefEqProofs [go_sem]; (repeat refine And.intro (by first | decide +kernel | omega | kernel_rfl) ?_); (try decide +kernel)
  refine .inl ⟨_, t1, ?_⟩; simp -implicitDefEqProofs [go_sem]; (repeat refine And.intro (by first | decide +kernel | omega | kernel_rfl) ?_); (try decide +kernel)
  refine .inl ⟨_, ha, ?_⟩; simp -implicitDefEqProofs [go_sem]; (repeat refine And.intro (by first | decide +kernel | omega | kernel_rfl) ?_); (try decide +kernel)
  refine .inl ⟨_, hn, ?_⟩; simp -implicitDefEqProofs [go_sem]; (repeat refine And.intro (by first | decide +kernel | omega | kernel_rfl) ?_); (try decide +kernel)
  refine .inl ⟨_, ho, ?_⟩; simp -implicitDefEqProofs [go_sem]; (repeat refine And.intro (by first | decide +kernel | omega | kernel_rfl) ?_); (try decide +kernel)
  refine .inl ⟨_, hq, ?_⟩; simp -implicitDefEqProofs [go_sem]; (repeat refine And.intro (by first | decide +kernel | omega | kernel_rfl) ?_); (try decide +kernel)
  refine .inl ⟨_, hn, ?_⟩; simp -implicitDefEqProofs [go_sem]; (repeat refine And.intro (by first | decide +kernel | omega | kernel_rfl) ?_); (try decide +kernel)
  refine .inl ⟨_, t2, ?_⟩; simp -implicitDefEqProofs [go_sem]; (repeat refine And.intro (by first | decide +kernel | omega | kernel_rfl) ?_); (try decide +kernel)
  refine .inl ⟨_, hs, ?_⟩; simp -implicitDefEqProofs [go_sem]; (repeat refine And.intro (by first | decide +kernel | omega | kernel_rfl) ?_); (try decide +kernel)
end Go.Mt
/-
  A part of the proof.
-/
set_option linter.unusedSimpArgs false
set_option linter.unusedVariables false
namespace Go.Mt
open Go Go.Pm Go.Proofs
/-- of makes the rows anew -/
def OfC (M : MR) (A : Nat → Nat → Int) (n r : Nat) : Prop := ∀ nid, HCall Tryz.prog 100 [.agg (mbx M)] [] nid (.pr nid 0 0 0)
      [(nid, .box (wbx (nid + 1) r n 1 .nl 0)), (nid + 1, .tab ⟨27, 26, 2, r, false, List.range r, tbZ A n r⟩)]
/-- down leads to this state -/
def DownC (A : Nat → Nat → Int) (n r : Nat) (full : Bool) (p : Ps) : Prop := ∀ ver cw b t nid, b < nid → t < nid → b ≠ t →
    HCall Tryz.prog 101 [.pr b 0 0 0, .d (.v (.int .i64 (n : Int))), .d (.v (.bool full))]
      [(b, .box (wbx t ver cw 1 .nl 0)), (t, .tab ⟨27, 26, 2, ver, false, List.range r, tbZ A n r⟩)] nid (.tup [])
      [(b, .box (wbx t ver cw (lastG A p.s) (.sr nid p.s.piv.length) p.sw)), (t, .tab ⟨27, 26, 2, ver, false, p.s.out, tbZ p.T n r⟩), (nid, .arr ⟨3, 1, p.s.piv.length, false, nes p.s.piv⟩)]
theorem OfC.pos {M : MR} {A : Nat → Nat → Int} {n r : Nat} (hr : M.2.length = r) (hR : ∀ k (h : k < M.2.length), M.2[k] = zrw A n k) (hr0 : 0 < r) (hn0 : 0 < n) (hn : n < 549755813888) (hrl : r < 549755813888) : OfC M A n r := fun nid => by
  have h := of_h M A (nid := nid) hr hR hn0 hn hrl
  rw [if_neg (by omega)] at h
  exact h
theorem DownC.pos {A : Nat → Nat → Int} {n r K : Nat} (full : Bool) (hn : n < 549755813888) (hr : r < 900000) (hA : ∀ st j, st < r → zl (A st j) ≤ K) (hK : 2 * bnd r K + 1 < 1099511627776) : DownC A n r full (pel A r full ⟨ginit A r, A, 0⟩ n) := fun ver cw b t nid hb ht hbt =>
  down_h A full n ver cw b t nid hb ht hbt hn hr (Nat.le_refl _) hA hK _ rfl
set_option maxRecDepth 100000 in
set_option maxHeartbeats 4000000 in
theorem DownC.zero (A : Nat → Nat → Int) (r : Nat) (full : Bool) (hr : r < 549755813888) : DownC A 0 r full ⟨ginit A r, A, 0⟩ := fun ver cw b t nid hb ht hbt => by
  have F : ¬ b = t ∧ ¬ t = b ∧ (∀ x, ¬ nid + x = b) ∧ (∀ x, ¬ nid + x = t) ∧ (∀ x, ¬ b = nid + x) ∧ (∀ x, ¬ t = nid + x) ∧ ¬ nid = b ∧ ¬ nid = t ∧ ¬ b = nid ∧ ¬ t = nid :=
    ⟨hbt, Ne.symm hbt, fun x => by omega, fun x => by omega, fun x => by omega, fun x => by omega, by omega, by omega, by omega, by omega⟩
  have hl0 : lastG A (ginit A r) = 1 := rfl
  have ho0 : (ginit A r).out = List.range r := rfl
  have hp0 : (ginit A r).piv = [] := rfl
  refine hcall_of (L := [nid + 8]) hmo Tryz.func101 rfl (by kernel_rfl) (by simp [Tryz.ntmps101]) (by simp -implicitDefEqProofs [go_sem, wbx]; omega) (by simp -implicitDefEqProofs [go_sem]; omega) ?_
  simp -implicitDefEqProofs [go_sem, Tryz.ntmps101, wbx, F]
  refine loop_rule [.arrB b 4 3 1] (fun (c : Nat) => ⟨94, [(0, .pr b 0 0 0), (2, .d (.v (.bool full))), (10, intP .i64 0), (11, intP .i64 0)],
      [(b, .box (wbx t ver cw 1 (.sr (nid + 8) 0) 0)), (t, .tab ⟨27, 26, 2, ver, false, List.range r, tbZ A 0 r⟩), (nid + 8, .arr ⟨3, 1, 0, false, []⟩)], nid + 1000⟩)
    (fun _ => True) (fun c => c) 0 trivial (by simp) (by simp -implicitDefEqProofs [go_sem, wbx, F]; omega) (fun c hc => ?_)
  simp -implicitDefEqProofs [go_sem, wbx, F, Nat.add_assoc, hl0, ho0, hp0, nes]; (repeat refine And.intro (by first | decide +kernel | omega | kernel_rfl) ?_); (try decide +kernel)
end Go.Mt
/-
  A part of the proof.
-/
set_option linter.unusedSimpArgs false
set_option linter.unusedVariables false
namespace Go.Mt
/-! plain: the reduced rows and the kernel, out of a state of the elimination -/
theorem gel_mem (s : Gs) (hs : s.piv = []) (n : Nat) : (∀ p ∈ (gel s n).piv, p < n) ∧ (gel s n).piv.Nodup := by
  induction n with
  | zero =>
    have e : gel s 0 = s := rfl
    rw [e, hs]
    exact ⟨fun p hp => by simp at hp, List.nodup_nil⟩
  | succ n ih =>
    rw [gel_succ]
    unfold gstep
    by_cases hf : fnd (gel s n) n < (gel s n).out.length
    · rw [if_pos hf]
      show (∀ p ∈ (gel s n).piv ++ [n], p < n + 1) ∧ ((gel s n).piv ++ [n]).Nodup
      refine ⟨fun p hp => ?_, ?_⟩
      · rcases List.mem_append.1 hp with h | h
        · have := ih.1 p h; omega
        · rw [List.mem_singleton] at h; omega
      · refine List.nodup_append.2 ⟨ih.2, by simp, fun a ha b hb => ?_⟩
        rw [List.mem_singleton] at hb
        have := ih.1 a ha
        omega
    · rw [if_neg hf]
      exact ⟨fun p hp => by have := ih.1 p hp; omega, ih.2⟩
/-- the reduced rows, with their rows of 0 -/
def redQ (s : Gs) (r n : Nat) : List (List Rat) := tabQ (fun i j => if i < s.piv.length then s.X (oo s.out i) j else 0) r n
/-- a vector of the kernel -/
def kerQ (s : Gs) (n c : Nat) : List Rat := (List.range n).map fun j => if j = c then 1 else if s.piv.idxOf j < s.piv.length then -s.X (oo s.out (s.piv.idxOf j)) c else 0
def freeC (s : Gs) (n : Nat) : List Nat := (List.range n).filter fun c => !s.piv.contains c
def kersQ (s : Gs) (n : Nat) : List (List Rat) := (freeC s n).map (kerQ s n)
variable {A : Nat → Nat → Int} {r : Nat} {s u : Gs} {d : Rat}
theorem Sc.at (h : Sc d s u) (hg : GI A r s) {i : Nat} (hi : i < s.piv.length) (j : Nat) : u.X (oo u.out i) j = s.X (oo s.out i) j := by
  have hk := hg.k
  have hl := hg.len
  rw [h.o]
  exact h.top _ ((oo_take hg.nod (by omega) (by omega)).2 hi) j
theorem redQ_sc (h : Sc d s u) (hg : GI A r s) (n : Nat) : redQ u r n = redQ s r n := tabQ_congr fun i j _ _ => by
  rw [h.p]
  by_cases hi : i < s.piv.length
  · rw [if_pos hi, if_pos hi, h.at hg hi]
  · rw [if_neg hi, if_neg hi]
theorem kerQ_sc (h : Sc d s u) (hg : GI A r s) (n c : Nat) : kerQ u n c = kerQ s n c := List.map_congr_left fun j _ => by
  rw [h.p]
  by_cases hj : j = c
  · rw [if_pos hj, if_pos hj]
  · rw [if_neg hj, if_neg hj]
    by_cases hi : s.piv.idxOf j < s.piv.length
    · rw [if_pos hi, if_pos hi, h.at hg hi]
    · rw [if_neg hi, if_neg hi]
theorem kersQ_sc (h : Sc d s u) (hg : GI A r s) (n : Nat) : kersQ u n = kersQ s n := by
  unfold kersQ freeC
  rw [h.p]
  exact List.map_congr_left fun c _ => kerQ_sc h hg n c
/-- the reference's start: the rows as fractions -/
def qinit (V : List (List Rat)) (r : Nat) : Gs := ⟨List.range r, entQ V, []⟩
theorem ent_enA (V : List (List Rat)) (i j : Nat) : entQ V i j = ratv (enA V i j) (nrmD V : Int) := by
  have h := valM_nm V
  unfold valM at h
  rw [zz_nm, show (nm V).1 = nrm (nrmD V : Int) from rfl, ofR_nrm] at h
  have h2 := entQ_fracs (nrmD V : Int) (nrmZ V) i j
  rw [h] at h2
  exact h2
theorem Sc.init (V : List (List Rat)) (r : Nat) : Sc (1 / (nrmD V : Rat)) (ginit (enA V) r) (qinit V r) := by
  refine ⟨rfl, rfl, fun st hst j => ?_, fun st _ _ j => ?_⟩
  · exact absurd hst (by simp [ginit])
  · show entQ V st j = 1 / (nrmD V : Rat) * (enA V st j : Rat)
    rw [ent_enA]
    unfold ratv
    rw [Rat.divInt_eq_div, Rat.div_def, Rat.div_def, Rat.one_mul, Rat.mul_comm]
    rfl
end Go.Mt
/-
  A part of the proof.
-/
set_option linter.unusedSimpArgs false
set_option linter.unusedVariables false
namespace Go.Mt
/-! plain: how long the fractions of the elimination are -/
variable {A : Nat → Nat → Int} {r : Nat} {s u : Gs} {d : Rat}
theorem GI.asRat (h : GI A r s) {st j : Nat} {z : Int} (hz : (z : Rat) = (lastG A s : Rat) * s.X st j) : s.X st j = ratv z (lastG A s) := by
  have hne : (lastG A s : Rat) ≠ 0 := fun h0 => h.ne (Rat.intCast_inj.1 h0)
  unfold ratv
  rw [Rat.divInt_eq_div, hz, Rat.mul_comm]
  exact (Rat.mul_div_cancel hne).symm
theorem GI.qlX (h : GI A r s) {K : Nat} (hA : ∀ st j, st < r → zl (A st j) ≤ K) (hr : s.piv.length < 999999) {st : Nat} (hs : st < r) (j : Nat) : ql (s.X st j) ≤ (s.piv.length + 1) * (K + 3) + 1 := by
  obtain ⟨z, hz, hl⟩ := h.whole hA hr hs j
  rw [h.asRat hz]
  have h1 := ql_ratv z (lastG A s) h.ne
  have h2 := h.lastK hA hr
  have h3 : (s.piv.length + 1) * (K + 3) = s.piv.length * (K + 3) + (K + 3) := Nat.succ_mul _ _
  omega
theorem ql_inv_nat {D K : Nat} (hD : D ≠ 0) (h : nl D ≤ K) (hK : 1 ≤ K) : ql (1 / (D : Rat)) ≤ K := by
  have e : (1 : Rat) / (D : Rat) = ratv 1 (D : Int) := by
    unfold ratv; rw [Rat.divInt_eq_div]; rfl
  rw [e]
  have h1 := ql_ratv 1 (D : Int) (by omega)
  have h2 : zl (1 : Int) = 1 := by decide
  have h3 := zl_nat D
  omega
theorem Sc.qlX (h : Sc d s u) (hg : GI A r s) {K L : Nat} (hA : ∀ st j, st < r → zl (A st j) ≤ K) (hr : s.piv.length < 999999) (hd : ql d ≤ L) {st : Nat} (hs : st ∈ s.out) (j : Nat) : ql (u.X st j) ≤ (s.piv.length + 1) * (K + 3) + 1 + L := by
  have h1 := hg.qlX hA hr (hg.mem st hs) j
  by_cases hm : st ∈ s.out.take s.piv.length
  · rw [h.top st hm]; omega
  · rw [h.bot st hs hm]
    have := ql_mul d (s.X st j)
    omega
/-- the reduced rows' numbers over the last pivot are whole -/
theorem GI.den (h : GI A r s) {K : Nat} (hA : ∀ st j, st < r → zl (A st j) ≤ K) (hr : s.piv.length < 999999) {st : Nat} (hs : st < r) (j : Nat) : (s.X st j).den ∣ (lastG A s).natAbs := by
  obtain ⟨z, hz, _⟩ := h.whole hA hr hs j
  rw [h.asRat hz]
  exact ratv_den_dvd z _ h.ne
end Go.Mt
/-
  A part of the proof.
-/
set_option linter.unusedSimpArgs false
set_option linter.unusedVariables false
namespace Go.Mt
/-! plain: what the program's state makes is the reduced form and the kernel -/
variable {A : Nat → Nat → Int} {r K : Nat} {p : Ps}
theorem PI.row (h : PI A r K true p) {i : Nat} (hi : i < p.s.out.length) (j : Nat) : ratv (p.T (oo p.s.out i) j) (lastG A p.s) = p.s.X (oo p.s.out i) j :=
  (h.g.asRat (h.v _ (oo_mem hi) (.inl rfl) j)).symm
/-- the numbers of the reduced form -/
def redE (p : Ps) (i j : Nat) : Int := if i < p.s.piv.length then p.T (oo p.s.out i) j else 0
theorem red_fracs (h : PI A r K true p) (n : Nat) : fracs (lastG A p.s) (tableZ (redE p) r n) = redQ p.s r n := by
  rw [fracs_table]
  refine tabQ_congr fun i j hi _ => ?_
  have hk := h.g.k
  have hl := h.g.len
  unfold redE
  by_cases h1 : i < p.s.piv.length
  · rw [if_pos h1, if_pos h1]; exact h.row (by omega) j
  · rw [if_neg h1, if_neg h1]; exact ratv_z _
theorem red_zl (h : PI A r K true p) {i : Nat} (hi : i < r) (j : Nat) : zl (redE p i j) ≤ bnd r K := by
  have hl := h.g.len
  unfold redE
  split
  · exact h.b _ j (h.g.mem _ (oo_mem (by omega)))
  · exact Nat.le_trans (by decide) (Nat.zero_le _)
/-- the numbers of a vector of the kernel, after so many pivots -/
def kerE (A : Nat → Nat → Int) (p : Ps) (c m j : Nat) : Int := if j = c then lastG A p.s else if p.s.piv.idxOf j < m then -p.T (oo p.s.out (p.s.piv.idxOf j)) c else 0
theorem ker_fracs (h : PI A r K true p) (n c : Nat) : frV (lastG A p.s) ((List.range n).map (kerE A p c p.s.piv.length)) = kerQ p.s n c := by
  unfold frV kerQ
  rw [List.map_map]
  refine List.map_congr_left fun j _ => ?_
  show ratv (kerE A p c p.s.piv.length j) _ = _
  have hk := h.g.k
  have hl := h.g.len
  unfold kerE
  by_cases hj : j = c
  · rw [if_pos hj, if_pos hj]
    unfold ratv
    rw [Rat.divInt_eq_div, Rat.div_def, Rat.mul_inv_cancel _ fun h0 => h.g.ne (Rat.intCast_inj.1 h0)]
  · rw [if_neg hj, if_neg hj]
    by_cases hi : p.s.piv.idxOf j < p.s.piv.length
    · rw [if_pos hi, if_pos hi, ← h.row (by omega) c]
      unfold ratv
      rw [Rat.divInt_eq_div, Rat.divInt_eq_div, Rat.intCast_neg, Rat.div_def, Rat.div_def, Rat.neg_mul]
    · rw [if_neg hi, if_neg hi]; exact ratv_z _
theorem ker_zero (A : Nat → Nat → Int) (p : Ps) (c j : Nat) : kerE A p c 0 j = if j = c then lastG A p.s else 0 := by
  unfold kerE
  rw [if_neg (Nat.not_lt_zero _)]
theorem ker_succ {A : Nat → Nat → Int} {p : Ps} {n c m : Nat} (hn : p.s.piv.Nodup) (hm : m < p.s.piv.length) (hc : c ∉ p.s.piv) (j : Nat) : kerE A p c (m + 1) j = if j = p.s.piv[m] then -p.T (oo p.s.out m) c else kerE A p c m j := by
  have hi : p.s.piv.idxOf p.s.piv[m] = m := List.Nodup.idxOf_getElem hn m hm
  unfold kerE
  by_cases h1 : j = p.s.piv[m]
  · have h2 : ¬ j = c := fun h => hc (h ▸ h1 ▸ List.getElem_mem hm)
    rw [if_pos h1, if_neg h2, h1, hi, if_pos (Nat.lt_succ_self _)]
  · rw [if_neg h1]
    by_cases h2 : j = c
    · rw [if_pos h2, if_pos h2]
    · rw [if_neg h2, if_neg h2]
      by_cases h3 : p.s.piv.idxOf j < m
      · rw [if_pos h3, if_pos (by omega)]
      · have h4 : p.s.piv.idxOf j ≠ m := fun h4 => h1 (by
          have hlt : p.s.piv.idxOf j < p.s.piv.length := by omega
          have h5 := List.getElem_idxOf hlt
          have h6 : p.s.piv[m]? = some j := by rw [← h4, List.getElem?_eq_getElem hlt, h5]
          exact (Option.some.inj ((List.getElem?_eq_getElem hm).symm.trans h6)).symm)
        rw [if_neg h3, if_neg (by omega)]
end Go.Mt
/-
  A part of the proof.
-/
set_option linter.unusedSimpArgs false
set_option linter.unusedVariables false
namespace Go.Mt
open Go Go.Pm Go.Proofs
theorem red_row1 {p : Ps} {n i : Nat} (hi : i < p.s.piv.length) : zes (zrw p.T n (oo p.s.out i)) = zes (zrow (redE p) n i) := by
  unfold zrw zrow redE
  congr 1
  exact List.map_congr_left fun j _ => by rw [if_pos hi]
theorem red_row0 {p : Ps} {n i : Nat} (hi : ¬ i < p.s.piv.length) : List.replicate n [D.v (.bool false), .sl []] = zes (zrow (redE p) n i) := by
  refine List.ext_getElem (by simp [zes, zrow]) fun j h1 h2 => ?_
  simp [zes, zrow, redE, hi, zel, nrm_zero, les_nil]
/-- what is as it was need not be named -/
theorem HCall.less {P : Program} {f : FuncId} {args : List PV} {hs h' h'' : Heap} {nid : Nat} {r : PV} (h : HCall P f args hs nid r h') (e : ∀ hg : Nat → Option Ob, (∀ id ob, hget hs id = some ob → hg id = some ob) → upd h' hg = upd h'' hg) : HCall P f args hs nid r h'' where
  enters := h.enters
  calls E hg loc kn w vs hm hh hn hl hr := by
    have := h.calls E hg loc kn w vs hm hh hn hl hr
    rw [e hg hh] at this
    exact this
set_option maxRecDepth 100000 in
set_option maxHeartbeats 4000000 in
theorem reduced_h {A : Nat → Nat → Int} {p : Ps} {n r K : Nat} (h : PI A r K true p) (hA : ∀ st j, st < r → zl (A st j) ≤ K) (hr : r < 549755813888) (hn : n < 549755813888) (hlast : zl (lastG A p.s) ≤ bnd r K) (hK : bnd r K < 1099511627776) {ver cw b t q nid : Nat} (hb : b < nid) (ht : t < nid) (hq : q < nid) (hbt : b ≠ t) (hbq : b ≠ q) (htq : t ≠ q) :
    HCall Tryz.prog 106 [.pr b 0 0 0]
      [(b, .box (wbx t ver cw (lastG A p.s) (.sr q p.s.piv.length) p.sw)), (t, .tab ⟨27, 26, 2, ver, false, p.s.out, tbZ p.T n r⟩), (q, .arr ⟨3, 1, p.s.piv.length, false, nes p.s.piv⟩)] nid (.agg (mbx (nm (redQ p.s r n))))
      [(t, .tab ⟨27, 26, 2, ver, true, p.s.out, tbZ p.T n r⟩)] := by
  refine HCall.less (h' := [(b, .box (wbx t ver cw (lastG A p.s) (.sr q p.s.piv.length) p.sw)), (t, .tab ⟨27, 26, 2, ver, true, p.s.out, tbZ p.T n r⟩), (q, .arr ⟨3, 1, p.s.piv.length, false, nes p.s.piv⟩)]) ?_ (fun hg hh => by
    funext x
    have h1 := hh b (.box (wbx t ver cw (lastG A p.s) (.sr q p.s.piv.length) p.sw)) (by simp [hget])
    have h2 := hh q (.arr ⟨3, 1, p.s.piv.length, false, nes p.s.piv⟩) (by simp [hget, hbq, htq])
    simp only [upd]
    by_cases e1 : b = x
    · subst e1; simp [Ne.symm hbt, h1]
    · by_cases e2 : t = x
      · subst e2; simp [hbt]
      · by_cases e3 : q = x
        · subst e3; simp [hbq, htq, h2]
        · simp [e1, e2, e3])
  have F : ¬ b = t ∧ ¬ t = b ∧ ¬ b = q ∧ ¬ q = b ∧ ¬ t = q ∧ ¬ q = t ∧ (∀ x, ¬ nid + x = b) ∧ (∀ x, ¬ nid + x = t) ∧ (∀ x, ¬ nid + x = q) ∧ (∀ x, ¬ b = nid + x) ∧ (∀ x, ¬ t = nid + x) ∧ (∀ x, ¬ q = nid + x) ∧ ¬ nid = b ∧ ¬ nid = t ∧ ¬ nid = q ∧ ¬ b = nid ∧ ¬ t = nid ∧ ¬ q = nid :=
    ⟨hbt, Ne.symm hbt, hbq, Ne.symm hbq, htq, Ne.symm htq, fun x => by omega, fun x => by omega, fun x => by omega, fun x => by omega, fun x => by omega, fun x => by omega, by omega, by omega, by omega, by omega, by omega, by omega⟩
  have FF : (∀ x y : Nat, (nid + x = nid + y) = (x = y)) := fun x y => by simp
  have hol := h.g.len
  have hkr := h.g.k
  have hom := h.g.mem
  obtain ⟨g1, g2, g3⟩ := grw_tab (f := redE p) (r := r) (c := n) (K := bnd r K) hK hr hn (fun i k hi hk => red_zl h hi k)
  have hck : checkE (nrm (lastG A p.s), ztab (redE p) r n) = 0 := by
    unfold checkE
    rw [if_neg (by show ¬ ofR (nrm _) = 0; rw [ofR_nrm]; exact h.g.ne), if_pos g2]
  have hno := normm_p (nrm (lastG A p.s), ztab (redE p) r n) (rz (by omega)) g1 hck
  have hv : valM (nrm (lastG A p.s), ztab (redE p) r n) = redQ p.s r n := by
    unfold valM
    rw [ofR_nrm, zz_tab, red_fracs h]
  rw [hv] at hno
  have hr1 := fun i (hi : i < p.s.piv.length) => red_row1 (n := n) hi
  have hr0 := fun i (hi : ¬ i < p.s.piv.length) => red_row0 (n := n) hi
  have hztl := ztab_len (redE p) r n
  have hztg := fun i (hi : i < (ztab (redE p) r n).length) => ztab_get (redE p) r n hi
  refine hcall_of (L := []) hmo Tryz.func106 rfl (by kernel_rfl) (by simp [Tryz.ntmps106]) (by simp -implicitDefEqProofs [go_sem, wbx]; omega) (by simp -implicitDefEqProofs [go_sem]; omega) ?_
  simp -implicitDefEqProofs [go_sem, Tryz.ntmps106, wbx, F, FF, Nat.add_assoc]
  refine loop_rule [.arrB (nid + 24) 2 27 1, .frz t] (fun (i : Nat) => ⟨44, [(0, .pr b 0 0 0), (2, .pr nid 0 0 0), (3, .pr (nid + 24) 0 0 0), (14, .st t ver), (15, intP .i64 (r : Int)), (16, intP .i64 (i : Int))],
      [(nid + 24, .box [.d (.v (.bool (nrm (lastG A p.s)).1)), .d (.sl (les (nrm (lastG A p.s)).2)), .sr (nid + 56) i]), (nid + 56, .arr ⟨27, 1, i, false, rws ((ztab (redE p) r n).take i)⟩),
       (b, .box (wbx t ver cw (lastG A p.s) (.sr q p.s.piv.length) p.sw)), (t, .tab ⟨27, 26, 2, ver, true, p.s.out, tbZ p.T n r⟩), (q, .arr ⟨3, 1, p.s.piv.length, false, nes p.s.piv⟩), (nid, .box [.d (.v (.bool false)), .nl, .nl])], nid + 1000⟩)
    (fun i => i ≤ r) (fun i => r - i) 0 (Nat.zero_le _) (by simp) (by simp -implicitDefEqProofs [go_sem, wbx, F, FF, Nat.add_assoc, hol, rws]; try omega) (fun i hi => ?_)
  by_cases hil : i < r
  · have hio : i < p.s.out.length := by omega
    obtain ⟨u, hu⟩ : ∃ u, u = oo p.s.out i := ⟨_, rfl⟩
    have hgi : p.s.out[i]? = some u := by rw [hu, oo_get hio, List.getElem?_eq_getElem]
    have hur : u < r := hom u (hu ▸ oo_mem hio)
    have hrw := tbZ_get p.T (n := n) hur
    have Ew := elemR_t hgi hrw
    have Aw := rowAt_t hrw
    have Rw := row_t hrw
    have hzl : (zes (zrw p.T n u)).length = n := by rw [zes_len, zrw_len]
    have hsn := take_snoc rel (ztab (redE p) r n) (k := i) (e := [.sl (zes (zrow (redE p) n i))]) (by rw [hztl]; exact hil) (by simp [rel, ztab])
    by_cases hik : i < p.s.piv.length
    · have hikz : ¬ (p.s.piv.length : Int) ≤ (i : Int) := by omega
      have hrr := hr1 i hik
      rw [← hu] at hrr
      rw [hrr] at Aw Rw hzl
      simp -implicitDefEqProofs [go_sem, wbx, F, FF, Nat.add_assoc, hol, hil, hio, Ew, Aw, Rw, hzl, hik, hikz]; (repeat refine And.intro (by first | decide +kernel | omega | kernel_rfl) ?_); (try decide +kernel)
      refine ⟨i + 1, by omega, by omega, by omega, ⟨rfl, hsn⟩, by omega⟩
    · have hikz : (p.s.piv.length : Int) ≤ (i : Int) := by omega
      have hrr := hr0 i hik
      simp -implicitDefEqProofs [go_sem, wbx, F, FF, Nat.add_assoc, hol, hil, hio, Ew, Aw, Rw, hzl, hik, hikz]; (repeat refine And.intro (by first | decide +kernel | omega | kernel_rfl) ?_); (try decide +kernel)
      rw [hrr]
      refine ⟨i + 1, by omega, by omega, by omega, ⟨rfl, hsn⟩, by omega⟩
  · obtain rfl : i = r := by omega
    rw [take_all hztl]
    simp -implicitDefEqProofs [go_sem, wbx, F, FF, Nat.add_assoc, hol]; (repeat refine And.intro (by first | decide +kernel | omega | kernel_rfl) ?_); (try decide +kernel)
    refine .inl ⟨_, hno, ?_⟩; simp -implicitDefEqProofs [go_sem, wbx, F, FF, Nat.add_assoc, hol, mbx]; (repeat refine And.intro (by first | decide +kernel | omega | kernel_rfl) ?_); (try decide +kernel)
end Go.Mt
/-
  A part of the proof.
-/
set_option linter.unusedSimpArgs false
set_option linter.unusedVariables false
namespace Go.Mt
open Go Go.Pm Go.Proofs
set_option maxRecDepth 100000 in
set_option maxHeartbeats 4000000 in
theorem rank_g (m : MR) {A : Nat → Nat → Int} {n r : Nat} {p : Ps} (hd : Rz m.1) (hg : Grw m.2) (hc : checkE m = 0) (hof : OfC (nm (valM m)) A n r) (hdn : DownC A n r false p) (hp : p.s.piv.length < 549755813888) :
    PCall Tryz.prog 30 [.d (md m)] (.tup [.d (.v (.int .i64 (p.s.piv.length : Int))), .d (.v (.int .i64 0))]) := by
  have hno := normm_p m hd hg hc
  have hdn2 := fun (b nd : Nat) (h : b + 1 < nd) => hdn r n b (b + 1) nd (by omega) (by omega) (by omega)
  generalize nm (valM m) = M at *
  refine pcall_of hmo Tryz.func30 rfl (by kernel_rfl) (by simp [Tryz.ntmps30]) ?_; simp -implicitDefEqProofs [go_sem, Tryz.ntmps30]; (repeat refine And.intro (by first | decide +kernel | omega | kernel_rfl) ?_); (try decide +kernel)
  refine .inl ⟨_, hno, ?_⟩; simp -implicitDefEqProofs [go_sem]; (repeat refine And.intro (by first | decide +kernel | omega | kernel_rfl) ?_); (try decide +kernel)
  refine .inr ⟨[], _, _, hof _, by simp -implicitDefEqProofs [go_sem, mbx], ?_⟩
  simp -implicitDefEqProofs [go_sem, wbx]; (repeat refine And.intro (by first | decide +kernel | omega | kernel_rfl) ?_); (try decide +kernel)
  refine .inr ⟨_, _, _, hdn2 _ _ (by omega), by simp -implicitDefEqProofs [go_sem, wbx], ?_⟩
  simp -implicitDefEqProofs [go_sem, wbx]; (repeat refine And.intro (by first | decide +kernel | omega | kernel_rfl) ?_); (try decide +kernel)
theorem rank_e (m : MR) (hd : Rz m.1) (hg : Grw m.2) (hc : checkE m ≠ 0) : PCall Tryz.prog 30 [.d (md m)] (.tup [.d (.v (.int .i64 0)), .d (.v (.int .i64 (checkE m)))]) := by
  have hno := normm_e m hd hg hc
  refine pcall_of hmo Tryz.func30 rfl (by kernel_rfl) (by simp [Tryz.ntmps30]) ?_; simp -implicitDefEqProofs [go_sem, Tryz.ntmps30]; (repeat refine And.intro (by first | decide +kernel | omega | kernel_rfl) ?_); (try decide +kernel)
  refine .inl ⟨_, hno, ?_⟩; simp -implicitDefEqProofs [go_sem, hc]; (repeat refine And.intro (by first | decide +kernel | omega | kernel_rfl) ?_); (try decide +kernel)
set_option maxRecDepth 100000 in
set_option maxHeartbeats 4000000 in
theorem reduce_g (m : MR) {A : Nat → Nat → Int} {n r K : Nat} {p : Ps} (hd : Rz m.1) (hg : Grw m.2) (hc : checkE m = 0) (hof : OfC (nm (valM m)) A n r) (hdn : DownC A n r true p) (h : PI A r K true p) (hA : ∀ st j, st < r → zl (A st j) ≤ K) (hr : r < 549755813888) (hn : n < 549755813888) (hlast : zl (lastG A p.s) ≤ bnd r K) (hK : bnd r K < 1099511627776) :
    PCall Tryz.prog 34 [.d (md m)] (.tup [.d (md (nm (redQ p.s r n))), .d (.sl (nes p.s.piv)), .d (.v (.int .i64 0))]) := by
  have hno := normm_p m hd hg hc
  have hdn2 := fun (b nd : Nat) (h : b + 1 < nd) => hdn r n b (b + 1) nd (by omega) (by omega) (by omega)
  have hrd := fun (b nd nq : Nat) (h1 : b + 1 < nq) (h2 : nq < nd) => reduced_h (ver := r) (cw := n) (b := b) (t := b + 1) (q := nq) (nid := nd) (n := n) h hA hr hn hlast hK (by omega) (by omega) (by omega) (by omega) (by omega) (by omega)
  generalize nm (valM m) = M at *
  refine pcall_of hmo Tryz.func34 rfl (by kernel_rfl) (by simp [Tryz.ntmps34]) ?_; simp -implicitDefEqProofs [go_sem, Tryz.ntmps34]; (repeat refine And.intro (by first | decide +kernel | omega | kernel_rfl) ?_); (try decide +kernel)
  refine .inl ⟨_, hno, ?_⟩; simp -implicitDefEqProofs [go_sem]; (repeat refine And.intro (by first | decide +kernel | omega | kernel_rfl) ?_); (try decide +kernel)
  refine .inr ⟨[], _, _, hof _, by simp -implicitDefEqProofs [go_sem, mbx], ?_⟩
  simp -implicitDefEqProofs [go_sem, wbx]; (repeat refine And.intro (by first | decide +kernel | omega | kernel_rfl) ?_); (try decide +kernel)
  refine .inr ⟨_, _, _, hdn2 _ _ (by omega), by simp -implicitDefEqProofs [go_sem, wbx], ?_⟩
  simp -implicitDefEqProofs [go_sem, wbx]; (repeat refine And.intro (by first | decide +kernel | omega | kernel_rfl) ?_); (try decide +kernel)
  refine .inr ⟨_, _, _, hrd _ _ 84 (by omega) (by omega), by simp -implicitDefEqProofs [go_sem, wbx], ?_⟩
  simp -implicitDefEqProofs [go_sem, wbx]; (repeat refine And.intro (by first | decide +kernel | omega | kernel_rfl) ?_); (try decide +kernel)
theorem reduce_e (m : MR) (hd : Rz m.1) (hg : Grw m.2) (hc : checkE m ≠ 0) : PCall Tryz.prog 34 [.d (md m)] (.tup [.d mE, .d (.sl []), .d (.v (.int .i64 (checkE m)))]) := by
  have hno := normm_e m hd hg hc
  refine pcall_of hmo Tryz.func34 rfl (by kernel_rfl) (by simp [Tryz.ntmps34]) ?_; simp -implicitDefEqProofs [go_sem, Tryz.ntmps34]; (repeat refine And.intro (by first | decide +kernel | omega | kernel_rfl) ?_); (try decide +kernel)
  refine .inl ⟨_, hno, ?_⟩; simp -implicitDefEqProofs [go_sem, hc]; (repeat refine And.intro (by first | decide +kernel | omega | kernel_rfl) ?_); (try decide +kernel)
end Go.Mt
/-
  A part of the proof.
-/
set_option linter.unusedSimpArgs false
set_option linter.unusedVariables false
set_option linter.unusedSimpArgs false
set_option linter.unusedVariables false
namespace Go.Proofs
open Go.RowKit Go.Lib Go.Sort Go.Pm
set_option maxHeartbeats 4000000 in
set_option maxRecDepth 1000000 in
theorem clone_nil (c : Nat) (w : World) :
    Calls Tryz.prog 150 #[.slice none 0 c] w fun e w' => e = .returned (.slice none 0 0) ∧ Below w.heap.size w w' := by
  have mixed : Tryz.prog.follows .mixedOrders = true := by kernel_rfl
  go_enter Tryz.func150, Tryz.ntmps150
  have hu := Tryz.underlying27
  have hrun : ∀ w, (binOp .eql 27 (.slice none 0 c) (.slice none 0 0)).run Tryz.prog w = .ok (.bool true) w := fun w => by
    have hq : ∀ d, (Op.equalIn (d + 1) 27 (.slice none 0 c) (.slice none 0 0)).run Tryz.prog w = .ok true w := fun d => by simp [Op.equalIn, run_underlying hu]
    simp only [binOp, Op.equal, Sem.run_bind]; rw [show Op.maxDepth = 9999 + 1 from rfl, hq]; simp
  go_wp2
  go_ret
  exact ⟨rfl, .refl _ _⟩
set_option maxHeartbeats 4000000 in
set_option maxRecDepth 1000000 in
theorem clone_some (a : Addr) (c : Nat) (w : World) :
    Calls Tryz.prog 150 #[.slice (some a) 0 c] w fun e w' => e = .returned (.slice (some ⟨w.heap.size, 0, none⟩) 0 0) ∧ w' = w.alloc (.cells #[] 26) := by
  have mixed : Tryz.prog.follows .mixedOrders = true := by kernel_rfl
  go_enter Tryz.func150, Tryz.ntmps150
  have hu := Tryz.underlying27
  have hrun : ∀ w, (binOp .eql 27 (.slice (some a) 0 c) (.slice none 0 0)).run Tryz.prog w = .ok (.bool false) w := fun w => by
    have hq := fun d => run_equal_nil (P := Tryz.prog) (w := w) hu a 0 c d
    simp only [binOp, Op.equal, Sem.run_bind]; rw [show Op.maxDepth = 9999 + 1 from rfl, hq]; simp
  go_wp2
  go_ret
  exact ⟨rfl, rfl⟩
end Go.Proofs
namespace Go.Mt
open Go Go.Pm Go.Proofs Go.RowKit
theorem clone_p0 : PCall Tryz.prog 150 [.d (.sl [])] (.one (.so 26 2 [])) where
  enters args w := by exact Tryz.call150 args w
  calls am w vs ham hl hrep := by
    obtain ⟨v, rfl⟩ : ∃ v, vs = #[v] := by
      match vs, hl with
      | ⟨[a]⟩, _ => exact ⟨a, rfl⟩
    have h0 := hrep 0 _ v rfl rfl
    have shape : ∃ (a : Option Addr) (c : Nat), v = .slice a 0 c := by
      cases h0 with
      | d h => cases h with
        | nil => exact ⟨_, _, rfl⟩
        | emp a c _ => exact ⟨a, c, rfl⟩
        | sl => exact ⟨_, _, rfl⟩
    obtain ⟨a, c, rfl⟩ := shape
    cases a with
    | none =>
      refine (clone_nil c w).mono fun e w' ⟨he, hb⟩ => ⟨_, he, hb, [.no], [.slice none 0 0], rfl, ⟨⟨by decide, rfl, rfl⟩, trivial⟩, ⟨fun b h => h.elim, trivial⟩, fun l hl b hb => ?_⟩
      obtain rfl : l = .no := by simpa using hl
      exact hb.elim
    | some a =>
      refine (clone_some a c w).mono fun e w' ⟨he, hw⟩ => ?_
      subst hw
      refine ⟨_, he, ?_, [.pl w.heap.size 0], [.slice (some ⟨w.heap.size, 0, none⟩) 0 0], rfl, ⟨⟨by decide, ⟨#[], alloc_new _ _, rfl, Nat.le_refl _, by decide, fun e he => by (simp at he), fun i j e d hi => by (simp at hi)⟩, rfl⟩, trivial⟩, ⟨fun b h l hl => by (simp at hl), trivial⟩, fun l hl b hb => ?_⟩
      · exact ⟨rfl, rfl, rfl, by rw [alloc_size]; omega, fun k hk => Below.heap_alloc w _ k hk⟩
      · obtain rfl : l = .pl w.heap.size 0 := by simpa using hl
        cases hb
        rw [alloc_size]
        omega
end Go.Mt
/-
  A part of the proof.
-/
set_option linter.unusedSimpArgs false
set_option linter.unusedVariables false
namespace Go.Mt
open Go Go.Pm Go.Proofs
set_option maxRecDepth 100000 in
set_option maxHeartbeats 2000000 in
theorem of_h0 (m : MR) (A : Nat → Nat → Int) {r nid : Nat} (hr : m.2.length = r) (hR : ∀ k (h : k < m.2.length), m.2[k] = []) (hrl : r < 549755813888) :
    HCall Tryz.prog 100 [.agg (mbx m)] [] nid (.pr nid 0 0 0)
      [(nid, .box (wbx (nid + 1) r 0 1 .nl 0)), (nid + 1, .tab ⟨27, 26, 2, r, false, List.range r, tbZ A 0 r⟩)] := by
  have h1 := of_p 1 (by decide) (by decide)
  have F : (∀ x y : Nat, (nid + x = nid + y) = (x = y)) ∧ (∀ x : Nat, (nid = nid + x) = (x = 0)) ∧ (∀ x : Nat, (nid + x = nid) = (x = 0)) := ⟨fun x y => by simp, fun x => by simp, fun x => by simp⟩
  refine hcall_of (L := [nid + 16, nid + 40]) hmo Tryz.func100 rfl (by kernel_rfl) (by simp [Tryz.ntmps100]) (by simp -implicitDefEqProofs [go_sem]) (by simp -implicitDefEqProofs [go_sem, mbx]) ?_
  simp -implicitDefEqProofs [go_sem, Tryz.ntmps100, F, mbx]
  refine .inl ⟨_, h1, ?_⟩; simp -implicitDefEqProofs [go_sem, F, Nat.add_assoc]; (repeat refine And.intro (by first | decide +kernel | omega | kernel_rfl) ?_); (try decide +kernel)
  refine loop_rule [.tabB (nid + 16) 0 27 26 2] (fun (i : Nat) => ⟨34, [(1, .pr nid 0 0 0), (3, .pr (nid + 16) 0 0 0), (10, .d (.sl (rws m.2))), (11, intP .i64 (m.2.length : Int)), (12, intP .i64 (i : Int))],
      [(nid + 16, .box (wbx (nid + 40) i 0 1 .nl 0)), (nid + 40, .tab ⟨27, 26, 2, i, false, List.range i, tbZ A 0 i⟩), (nid, .box (mbx m))], nid + 1000⟩)
    (fun i => i ≤ r) (fun i => r - i) 0 (Nat.zero_le _) (by simp) (by simp -implicitDefEqProofs [go_sem, wbx, F, Nat.add_assoc, mbx, tbZ]) (fun i hi => ?_)
  by_cases hil : i < r
  · have him : i < m.2.length := by omega
    have hRi := hR i him
    have hcl := clone_p0
    have hz : zes ([] : List ZR) = [] := rfl
    have hsn : tbZ A 0 i ++ [some []] = tbZ A 0 (i + 1) := tbZ_succ A 0 i
    simp -implicitDefEqProofs [go_sem, wbx, F, Nat.add_assoc, him, mbx, hRi, hz]; (repeat refine And.intro (by first | decide +kernel | omega | kernel_rfl) ?_); (try decide +kernel)
    refine .inl ⟨_, hcl, ?_⟩
    simp -implicitDefEqProofs [go_sem, wbx, F, Nat.add_assoc, him, mbx, hRi, hz]
    refine And.intro (by omega) (And.intro (raceOk_ren [nid + 16, nid + 40, nid + 1040] (by simp) 3 (Nat.le_refl 3) [([], []), ([], []), ([0], []), ([0], []), ([0], []), ([], []), ([], [2]), ([], []), ([1, 2], [1, 2]), ([0], []), ([0], []), ([0], [0])] (by decide) (by kernel_rfl)) (And.intro (by omega) ?_))
    refine ⟨i + 1, by omega, by omega, by omega, rfl, ?_, hsn⟩
    rw [show (tbZ A 0 i).length = i by simp [tbZ]]
    exact List.range_succ.symm
  · obtain rfl : i = r := by omega
    have hix : List.idxOf (nid + 40) [nid + 16, nid + 40] = 1 := by
      have hb : (nid + 16 == nid + 40) = false := beq_eq_false_iff_ne.2 (by omega)
      rw [List.idxOf_cons, hb]; simp
    simp -implicitDefEqProofs [go_sem, wbx, F, Nat.add_assoc, hr, mbx, hix]; (repeat refine And.intro (by first | decide +kernel | omega | kernel_rfl) ?_); (try decide +kernel)
theorem OfC.zero {M : MR} {A : Nat → Nat → Int} {r : Nat} (hr : M.2.length = r) (hR : ∀ k (h : k < M.2.length), M.2[k] = []) (hrl : r < 549755813888) : OfC M A 0 r := fun nid => of_h0 M A hr hR hrl
end Go.Mt
/-
  A part of the proof.
-/
set_option linter.unusedSimpArgs false
set_option linter.unusedVariables false
namespace Go.Mt
open Go Go.Pm Go.Proofs
/-! reference 11's Reduce: plain parts -/
theorem fnd_eq {s : Gs} {c at_ : Nat} (hk : s.piv.length ≤ at_) (hat : at_ < s.out.length) (h0 : ∀ i, s.piv.length ≤ i → i < at_ → s.X (oo s.out i) c = 0) (h1 : s.X (oo s.out at_) c ≠ 0) : fnd s c = at_ := by
  have hg := fnd_ge s c
  rcases Nat.lt_trichotomy (fnd s c) at_ with h | h | h
  · exact absurd (h0 _ hg h) (fnd_ne (by omega))
  · exact h
  · exfalso
    have hlt : at_ - s.piv.length < (s.out.drop s.piv.length).findIdx fun st => decide (s.X st c ≠ 0) := by unfold fnd at h; omega
    have hl : at_ - s.piv.length < (s.out.drop s.piv.length).length := by rw [List.length_drop]; omega
    have h2 := List.not_of_lt_findIdx hlt
    have h2 := of_decide_eq_false h2
    refine h2 ?_
    rw [List.getElem_drop]
    have e : s.piv.length + (at_ - s.piv.length) = at_ := by omega
    simp only [e]
    rw [← oo_get hat]
    exact h1
theorem fnd_none {s : Gs} {c : Nat} (h0 : ∀ i, s.piv.length ≤ i → i < s.out.length → s.X (oo s.out i) c = 0) : ¬ fnd s c < s.out.length := fun h => fnd_ne h (h0 _ (fnd_ge s c) h)
theorem trn_trn (a b i : Nat) : trn a b (trn a b i) = i := by
  unfold trn
  by_cases h1 : i = a
  · rw [if_pos h1]; by_cases h2 : b = a
    · rw [if_pos h2]; omega
    · rw [if_neg h2, if_pos rfl]; omega
  · rw [if_neg h1]; by_cases h2 : i = b
    · rw [if_pos h2, if_pos rfl]; omega
    · rw [if_neg h2, if_neg h1, if_neg h2]
theorem swL_mem2 {l : List Nat} {a b : Nat} (ha : a < l.length) (hb : b < l.length) : ∀ x ∈ l, x ∈ swL l a b := fun x hx => by
  obtain ⟨i, hi, rfl⟩ := mem_oo hx
  have h := swL_oo l ha hb (trn_lt ha hb hi)
  rw [trn_trn] at h
  rw [← h]
  exact oo_mem (by rw [swL_len]; exact trn_lt ha hb hi)
/-- what holds of a state without a word on numbers -/
structure Gp (r : Nat) (s : Gs) : Prop where
  len : s.out.length = r
  nod : s.out.Nodup
  mem : ∀ st ∈ s.out, st < r
  all : ∀ st, st < r → st ∈ s.out
  k : s.piv.length ≤ r
theorem Gp.init (V : List (List Rat)) (r : Nat) : Gp r (qinit V r) := ⟨List.length_range, List.nodup_range, fun _ h => List.mem_range.1 h, fun _ h => List.mem_range.2 h, Nat.zero_le _⟩
theorem Gp.step {r : Nat} {s : Gs} (h : Gp r s) (c : Nat) : Gp r (gstep s c) := by
  by_cases hf : fnd s c < s.out.length
  · have hg := fnd_ge s c
    have hl := h.len
    unfold gstep
    rw [if_pos hf]
    refine ⟨?_, swL_nod h.nod (by omega) hf, fun st hs => h.mem st (swL_mem (by omega) hf st hs), fun st hs => swL_mem2 (by omega) hf st (h.all st hs), ?_⟩
    · show (swL _ _ _).length = r; rw [swL_len, hl]
    · show (s.piv ++ [c]).length ≤ r; rw [List.length_append, List.length_singleton]; omega
  · have e : gstep s c = s := if_neg hf
    rw [e]; exact h
theorem Gp.gel {r : Nat} {s : Gs} (h : Gp r s) (n : Nat) : Gp r (gel s n) := by
  induction n with
  | zero => exact h
  | succ n ih => rw [gel_succ]; exact ih.step n
/-- rows of fractions, as they lie -/
def qrz (Z : Nat → Nat → Rat) (n st : Nat) : List QR := (List.range n).map fun j => nq (Z st j)
theorem qrz_len (Z : Nat → Nat → Rat) (n st : Nat) : (qrz Z n st).length = n := by simp [qrz]
def tbQ (Z : Nat → Nat → Rat) (n r : Nat) : List (Option (List (List D))) := (List.range r).map fun st => some (qes (qrz Z n st))
theorem tbQ_get (Z : Nat → Nat → Rat) {n r st : Nat} (h : st < r) : (tbQ Z n r)[st]? = some (some (qes (qrz Z n st))) := by unfold tbQ; simp [h]
theorem qes_qrz (Z : Nat → Nat → Rat) {n st j : Nat} (h : j < n) : (qes (qrz Z n st))[j]? = some (qel (nq (Z st j))) := by unfold qes qrz; simp [h]
def updR (Z : Nat → Nat → Rat) (st j : Nat) (v : Rat) : Nat → Nat → Rat := fun st' j' => if st' = st ∧ j' = j then v else Z st' j'
theorem qrz_set (Z : Nat → Nat → Rat) {n st j : Nat} (h : j < n) (v : Rat) : (qes (qrz Z n st)).set j (qel (nq v)) = qes (qrz (updR Z st j v) n st) := by
  refine List.ext_getElem? fun i => ?_
  by_cases hi : i < n
  · rw [qes_qrz _ hi, List.getElem?_set]
    have hl : (qes (qrz Z n st)).length = n := by rw [qes_len, qrz_len]
    by_cases hij : j = i
    · subst hij
      rw [if_pos rfl, if_pos (by omega)]
      unfold updR; rw [if_pos ⟨rfl, rfl⟩]
    · rw [if_neg hij, qes_qrz _ hi]
      unfold updR; rw [if_neg (by omega)]
  · rw [List.getElem?_eq_none (by rw [List.length_set, qes_len, qrz_len]; omega), List.getElem?_eq_none (by rw [qes_len, qrz_len]; omega)]
theorem tbQ_set (Z : Nat → Nat → Rat) {n r st j : Nat} (hs : st < r) (h : j < n) (v : Rat) : (tbQ Z n r).set st (some ((qes (qrz Z n st)).set j (qel (nq v)))) = tbQ (updR Z st j v) n r := by
  rw [qrz_set Z h v]
  refine List.ext_getElem? fun i => ?_
  by_cases hi : i < r
  · rw [tbQ_get _ hi, List.getElem?_set]
    have hl : (tbQ Z n r).length = r := by unfold tbQ; simp
    by_cases hij : st = i
    · subst hij; rw [if_pos rfl, if_pos (by omega)]
    · rw [if_neg hij, tbQ_get _ hi]
      congr 3
      unfold qrz
      refine List.map_congr_left fun k _ => ?_
      unfold updR; rw [if_neg (by omega)]
  · rw [List.getElem?_eq_none (by rw [List.length_set]; unfold tbQ; simp; omega), List.getElem?_eq_none (by unfold tbQ; simp; omega)]
/-- some rows are made so, one of them in part -/
def mxR (Z N : Nat → Nat → Rat) (D : List Nat) : Nat → Nat → Rat := fun st j => if st ∈ D then N st j else Z st j
def mjR (Z N : Nat → Nat → Rat) (s j : Nat) : Nat → Nat → Rat := fun st' j' => if st' = s ∧ j' < j then N st' j' else Z st' j'
theorem mjR_succ (Z N : Nat → Nat → Rat) (s j : Nat) : updR (mjR Z N s j) s j (N s j) = mjR Z N s (j + 1) := by
  funext st' j'; unfold updR mjR
  by_cases h : st' = s ∧ j' = j
  · rw [if_pos h, if_pos ⟨h.1, by omega⟩, h.1, h.2]
  · rw [if_neg h]
    by_cases h2 : st' = s ∧ j' < j
    · rw [if_pos h2, if_pos ⟨h2.1, by omega⟩]
    · rw [if_neg h2, if_neg (by omega)]
theorem mjR_zero (Z N : Nat → Nat → Rat) (s : Nat) : mjR Z N s 0 = Z := by funext st' j'; unfold mjR; rw [if_neg (by omega)]
theorem tbQ_congr {Z W : Nat → Nat → Rat} {n r : Nat} (h : ∀ st j, st < r → j < n → Z st j = W st j) : tbQ Z n r = tbQ W n r := by
  unfold tbQ qrz
  refine List.map_congr_left fun st hs => ?_
  congr 2
  exact List.map_congr_left fun j hj => by rw [h st j (List.mem_range.1 hs) (List.mem_range.1 hj)]
end Go.Mt
/-
  A part of the proof.
-/
set_option linter.unusedSimpArgs false
set_option linter.unusedVariables false
namespace Go.Mt
open Go Go.Pm Go.Proofs
set_option maxRecDepth 100000 in
set_option maxHeartbeats 1000000 in
theorem indexInt_p (l : List Nat) (c : Nat) (hn : l.length < 549755813888) : PCall Tryz.prog 157 [.d (.sl (nes l)), .d (.v (.int .i64 (c : Int)))] (.one (.d (.v (.int .i64 (if c ∈ l then (l.idxOf c : Int) else -1))))) := by
  refine pcall_of hmo Tryz.func157 rfl (by kernel_rfl) (by simp [Tryz.ntmps157]) ?_; simp -implicitDefEqProofs [go_sem, Tryz.ntmps157]; (repeat refine And.intro (by first | decide +kernel | omega | kernel_rfl) ?_); (try decide +kernel)
  refine loop_rule [] (fun (i : Nat) => ⟨19, [(0, .d (.sl (nes l))), (1, intP .i64 (c : Int)), (7, intP .i64 (l.length : Int)), (8, intP .i64 (i : Int))], [], 1000⟩)
    (fun i => i ≤ l.length ∧ ∀ j (hj : j < l.length), j < i → l[j] ≠ c) (fun i => l.length - i) 0 ⟨Nat.zero_le _, fun j _ h => by omega⟩ (by simp) (by simp -implicitDefEqProofs [go_sem]) (fun i ⟨hi, ha⟩ => ?_)
  by_cases hil : i < l.length
  · by_cases hc : l[i] = c
    · have hm : c ∈ l := hc ▸ List.getElem_mem hil
      have hx : l.idxOf c = i := by
        rcases Nat.lt_trichotomy (l.idxOf c) i with h | h | h
        · have h2 : l.idxOf c < l.length := List.idxOf_lt_length_of_mem hm
          exact absurd (List.getElem_idxOf h2) (ha _ h2 h)
        · exact h
        · have := List.not_of_lt_findIdx (p := (· == c)) (xs := l) (i := i) h
          simp [hc] at this
      rw [if_pos hm, hx]
      simp -implicitDefEqProofs [go_sem, hil, hc]; (repeat refine And.intro (by first | decide +kernel | omega | kernel_rfl) ?_); (try decide +kernel)
    · have hcz : ¬ (c : Int) = ((l[i] : Nat) : Int) := by omega
      have hcz2 : ¬ c = l[i] := fun h => hc h.symm
      simp -implicitDefEqProofs [go_sem, hil, hcz, hcz2]; (repeat refine And.intro (by first | decide +kernel | omega | kernel_rfl) ?_); (try decide +kernel)
      refine ⟨i + 1, ⟨by omega, fun j hj h => ?_⟩, by omega, by omega⟩
      by_cases h2 : j = i
      · subst h2; exact hc
      · exact ha j hj (by omega)
  · obtain rfl : i = l.length := by omega
    have hm : c ∉ l := fun hm => by
      obtain ⟨j, hj, e⟩ := List.getElem_of_mem hm
      exact ha j hj hj e
    rw [if_neg hm]
    simp -implicitDefEqProofs [go_sem]; (repeat refine And.intro (by first | decide +kernel | omega | kernel_rfl) ?_); (try decide +kernel)
theorem contains_p (l : List Nat) (c : Nat) (hn : l.length < 549755813888) : PCall Tryz.prog 108 [.d (.sl (nes l)), .d (.v (.int .i64 (c : Int)))] (.one (.d (.v (.bool (decide (c ∈ l)))))) := by
  have h := indexInt_p l c hn
  by_cases hm : c ∈ l
  · rw [if_pos hm] at h
    rw [decide_eq_true hm]
    refine pcall_of hmo Tryz.func108 rfl (by kernel_rfl) (by simp [Tryz.ntmps108]) ?_; simp -implicitDefEqProofs [go_sem, Tryz.ntmps108]; (repeat refine And.intro (by first | decide +kernel | omega | kernel_rfl) ?_); (try decide +kernel)
    refine .inl ⟨_, h, ?_⟩; simp -implicitDefEqProofs [go_sem]; (repeat refine And.intro (by first | decide +kernel | omega | kernel_rfl) ?_); (try decide +kernel)
  · rw [if_neg hm] at h
    rw [decide_eq_false hm]
    refine pcall_of hmo Tryz.func108 rfl (by kernel_rfl) (by simp [Tryz.ntmps108]) ?_; simp -implicitDefEqProofs [go_sem, Tryz.ntmps108]; (repeat refine And.intro (by first | decide +kernel | omega | kernel_rfl) ?_); (try decide +kernel)
    refine .inl ⟨_, h, ?_⟩; simp -implicitDefEqProofs [go_sem]; (repeat refine And.intro (by first | decide +kernel | omega | kernel_rfl) ?_); (try decide +kernel)
end Go.Mt
