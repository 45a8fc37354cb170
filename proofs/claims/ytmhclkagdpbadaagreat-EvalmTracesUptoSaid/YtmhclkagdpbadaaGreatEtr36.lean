/-
  A part of the proof.
-/
import Derived.Test.YtmhclkagdpbadaaGreatEtr34
import Derived.Test.YtmhclkagdpbadaaGreatEtr25
set_option linter.unusedVariables false
set_option linter.unusedSimpArgs false
set_option linter.unusedSimpArgs false
set_option linter.unusedVariables false
namespace Go.Mt
open Go Go.Pm Go.Proofs
/-- a matrix of fractions in normal form; what a matrix says -/
def nm (qss : List (List Rat)) : MR := (nrm (nrmD qss : Int), (nrmZ qss).map fun r => r.map nrm)
def valM (m : MR) : List (List Rat) := fracs (ofR m.1) (zz m.2)
theorem zz_even {rows : List (List ZR)} (h : evenB rows = true) : ∀ zs ∈ zz rows, zs.length = colsOf (zz rows) := by
  intro zs hz
  obtain ⟨r, hr, rfl⟩ := List.mem_map.1 hz
  rw [zz_cols, List.length_map]
  exact even_row h hr
theorem mkM_nm {D : Int} (h0 : D ≠ 0) {rows : List (List ZR)} (h : evenB rows = true) : mkM D rows = nm (fracs D (zz rows)) := by
  obtain ⟨h1, h2⟩ := made_nrm D h0 (zz rows) (zz_even h)
  unfold nm
  rw [← h1, ← h2]
  unfold mkM mkD madeDen madeRows qrows qrow
  rw [zz_cols, ents_zz]
  congr 1
  unfold zz
  simp only [List.map_map, Function.comp_def]
theorem made_q (d : ZR) (rows : List (List ZR)) (hd : Rz d) (h0 : ofR d ≠ 0) (h : Grw rows) (hev : evenB rows = true) :
    PCall Tryz.prog 107 [.d (zd d), .d (.sl (rws rows))] (.one (.d (md (nm (fracs (ofR d) (zz rows)))))) := by
  rw [← mkM_nm h0 hev]; exact made_p d rows hd h0 h
theorem zz_nrm (zss : List (List Int)) : zz (zss.map fun r => r.map nrm) = zss := by
  unfold zz
  rw [List.map_map]
  conv => rhs; rw [← List.map_id zss]
  refine List.map_congr_left fun r _ => ?_
  simp only [Function.comp, List.map_map, id]
  conv => rhs; rw [← List.map_id r]
  exact List.map_congr_left fun z _ => ofR_nrm z
theorem zz_nm (qss : List (List Rat)) : zz (nm qss).2 = nrmZ qss := zz_nrm _
theorem nm_den (qss : List (List Rat)) : ofR (nm qss).1 = (nrmD qss : Int) := ofR_nrm _
theorem nrmD_pos (qss : List (List Rat)) : 0 < nrmD qss := comDen_pos _
theorem valM_nm (qss : List (List Rat)) : valM (nm qss) = qss := by
  unfold valM
  rw [nm_den, zz_nm]
  unfold fracs nrmZ
  rw [List.map_map]
  conv => rhs; rw [← List.map_id qss]
  refine List.map_congr_left fun qs hq => ?_
  simp only [Function.comp, List.map_map, id]
  conv => rhs; rw [← List.map_id qs]
  refine List.map_congr_left fun q h => ?_
  exact ratv_comNum _ (nrmD_pos qss) q (den_dvd_comDen _ _ (List.mem_flatten.2 ⟨qs, hq, h⟩))
theorem evenB_map {α : Type} (f : α → ZR) (qss : List (List α)) (h : ∀ qs ∈ qss, qs.length = colsOf qss) : evenB (qss.map fun qs => qs.map f) = true := by
  unfold evenB
  rw [List.all_eq_true]
  intro r hr
  obtain ⟨qs, hq, rfl⟩ := List.mem_map.1 hr
  have hc : colsOf (qss.map fun qs => qs.map f) = colsOf qss := by cases qss <;> simp [colsOf]
  rw [hc, List.length_map]
  exact decide_eq_true (h qs hq)
/-- the normal form's numbers are no greater than those over any denominator -/
theorem nm_bound {D : Int} (h0 : D ≠ 0) {rows : List (List ZR)} (hev : evenB rows = true) (hg : Grw rows) {K : Nat} (hK : K < 1099511627776) (hD : zl D ≤ K) (hr : ∀ r ∈ rows, ∀ z ∈ r, zl (ofR z) ≤ K) : Gm (max K 1) (nm (fracs D (zz rows))) := by
  rw [← mkM_nm h0 hev]
  have hd1 : zl (mkD D rows) ≤ max K 1 := by
    unfold mkD; split
    · have : zl 1 = 1 := by decide
      omega
    · have := zl_div (madeG_dvd D (ents rows)).1
      omega
  have hmem : ∀ r ∈ (mkM D rows).2, ∀ z ∈ r, ∃ r0 ∈ rows, ∃ z0 ∈ r0, z = nrm (ofR z0 / madeG D (ents rows)) := by
    intro r hr z hz
    obtain ⟨r0, h1, rfl⟩ := List.mem_map.1 hr
    obtain ⟨z0, h2, rfl⟩ := List.mem_map.1 hz
    exact ⟨r0, h1, z0, h2, rfl⟩
  have hk : ∀ r ∈ (mkM D rows).2, ∀ z ∈ r, zl (ofR z) ≤ K ∧ Rz z := by
    intro r h1 z h2
    obtain ⟨r0, h3, z0, h4, rfl⟩ := hmem r h1 z h2
    have hd := zl_div ((madeG_dvd D (ents rows)).2 (ofR z0) (List.mem_map.2 ⟨z0, List.mem_flatten.2 ⟨r0, h3, h4⟩, rfl⟩))
    have := hr r0 h3 z0 h4
    refine ⟨by rw [ofR_nrm]; omega, rz (by omega)⟩
  have hne : ofR (mkM D rows).1 ≠ 0 := by
    show ofR (nrm (mkD D rows)) ≠ 0
    rw [ofR_nrm]
    unfold mkD; split
    · decide
    · intro e
      have hd := (madeG_dvd D (ents rows)).1
      have hn := madeG_ne h0 (ents rows)
      generalize madeG D (ents rows) = G at *
      obtain ⟨t, rfl⟩ := hd
      rw [Int.mul_ediv_cancel_left _ hn] at e
      rw [e, Int.mul_zero] at h0
      exact h0 rfl
  refine ⟨rz (by omega), hne, ⟨fun r h1 z h2 => (hk r h1 z h2).2, ?_, fun r h1 => ?_⟩, evenB_map _ rows (fun r hr => even_row hev hr), fun r h1 z h2 => by have := (hk r h1 z h2).1; omega, by show zl (ofR (nrm _)) ≤ _; rw [ofR_nrm]; exact hd1⟩
  · show (qrows _ _).length < _; rw [qrows_len]; exact hg.nr
  · obtain ⟨r0, h3, rfl⟩ := List.mem_map.1 h1
    rw [qrow_len]; exact hg.nc r0 h3
theorem grw_tab {f : Nat → Nat → Int} {r c K : Nat} (hK : K < 1099511627776) (hr : r < 549755813888) (hc : c < 549755813888) (hf : ∀ i k, i < r → k < c → zl (f i k) ≤ K) : Grw (ztab f r c) ∧ evenB (ztab f r c) = true ∧ ∀ x ∈ ztab f r c, ∀ z ∈ x, zl (ofR z) ≤ K := by
  have hm : ∀ x ∈ ztab f r c, ∀ z ∈ x, ∃ i k, i < r ∧ k < c ∧ z = nrm (f i k) := by
    intro x hx z hz
    obtain ⟨i, hi, rfl⟩ := List.mem_map.1 hx
    obtain ⟨k, hk, rfl⟩ := List.mem_map.1 hz
    exact ⟨i, k, List.mem_range.1 hi, List.mem_range.1 hk, rfl⟩
  have hl : ∀ x ∈ ztab f r c, x.length = c := by
    intro x hx
    obtain ⟨i, hi, rfl⟩ := List.mem_map.1 hx
    exact zrow_len f c i
  refine ⟨⟨fun x hx z hz => ?_, by rw [ztab_len]; exact hr, fun x hx => by rw [hl x hx]; exact hc⟩, ?_, fun x hx z hz => ?_⟩
  · obtain ⟨i, k, h1, h2, rfl⟩ := hm x hx z hz
    exact rz (by have := hf i k h1 h2; omega)
  · unfold evenB
    rw [List.all_eq_true]
    intro x hx
    rw [hl x hx]
    refine decide_eq_true ?_
    cases h : ztab f r c with
    | nil => rw [h] at hx; simp at hx
    | cons y l => exact (hl y (by rw [h]; exact List.mem_cons_self ..)).symm
  · obtain ⟨i, k, h1, h2, rfl⟩ := hm x hx z hz
    rw [ofR_nrm]; exact hf i k h1 h2
end Go.Mt
/-
  A part of the proof.
-/
set_option linter.unusedSimpArgs false
set_option linter.unusedVariables false
namespace Go.Mt
open Go Go.Pm Go.Proofs
/-- Mul: entries -/
def mulE (a b : MR) (n : Nat) : Nat → Nat → Int := mulZ (zz a.2) (zz b.2) n
theorem Gm.ent {K : Nat} {m : MR} (h : Gm K m) {i k : Nat} (hi : i < m.2.length) (hk : k < colsOf m.2) : ∃ (h2 : k < m.2[i].length), Rz m.2[i][k] ∧ entry (zz m.2) i k = ofR m.2[i][k] ∧ zl (ofR m.2[i][k]) ≤ K := by
  have hl := h.row hi
  have h2 : k < m.2[i].length := by omega
  exact ⟨h2, h.g.rz _ (List.getElem_mem hi) _ (List.getElem_mem h2), zz_ent m.2 hi h2, h.k _ (List.getElem_mem hi) _ (List.getElem_mem h2)⟩
set_option maxRecDepth 100000 in
set_option maxHeartbeats 1000000 in
theorem mul1_p (a b : MR) {K : Nat} (ha : Gm K a) (hb : Gm K b) (hK : 2 * K + 2 < 1099511627776) (n : Nat) (hn : colsOf a.2 = n) (hn2 : b.2.length = n) (i k : Nat) (hi : i < a.2.length) (hk : k < colsOf b.2) :
    PCall Tryz.prog 221 [.d (.v (.int .i64 (i : Int))), .d (.v (.int .i64 (k : Int))), .bw [.v (.int .i64 (n : Int))], .bw (mel a), .bw (mel b)] (.one (.d (zd (nrm (mulE a b n i k))))) := by
  have hnb := hb.g.nr
  have hbd : ∀ j, j ≤ n → zl (sumZ j fun j => entry (zz a.2) i j * entry (zz b.2) j k) ≤ 2 * K + 2 := fun j hj => zl_sumZ (fun j' hj' => by
    obtain ⟨_, _, e1, h1⟩ := ha.ent hi (k := j') (by omega)
    obtain ⟨_, _, e2, h2⟩ := hb.ent (i := j') (by omega) hk
    rw [e1, e2]
    have := zl_mul (ofR a.2[i][j']) (ofR b.2[j'][k])
    omega) (by omega)
  refine pcall_of hmo Tryz.func221 rfl (by kernel_rfl) (by simp [Tryz.ntmps221]) ?_; simp -implicitDefEqProofs [go_sem, Tryz.ntmps221]; (repeat refine And.intro (by first | decide +kernel | omega | kernel_rfl) ?_); (try decide +kernel)
  refine loop_rule [.nilB 4 1] (fun (j : Nat) => ⟨35, [(0, intP .i64 (i : Int)), (1, intP .i64 (k : Int)), (3, .bw (mel a)), (4, .bw (mel b)), (7, .pr 0 0 0 0), (8, .pr 4 0 0 0), (10, intP .i64 (n : Int)), (11, intP .i64 (j : Int))],
    [(4, .box [.d (.v (.bool (nrm (mulE a b j i k)).1)), .d (.sl (les (nrm (mulE a b j i k)).2))]), (0, .box [.d (.v (.bool false)), .nl])], 1000⟩)
    (fun j => j ≤ n) (fun j => n - j) 0 (Nat.zero_le _) (by simp) (by simp -implicitDefEqProofs [go_sem, mulE, mulZ, sumZ, nrm_zero, les_nil]) (fun j hj => ?_)
  by_cases hjl : j < n
  · obtain ⟨g1, r1, e1, k1⟩ := ha.ent hi (k := j) (by omega)
    obtain ⟨g2, r2, e2, k2⟩ := hb.ent (i := j) (by omega) hk
    have hm := mul_p a.2[i][j] b.2[j][k] r1 r2
    rw [← e1, ← e2] at hm
    have hml := zl_mul (entry (zz a.2) i j) (entry (zz b.2) j k)
    rw [e1, e2] at hml
    have had := add_n (mulE a b j i k) (entry (zz a.2) i j * entry (zz b.2) j k) (Nat.lt_of_le_of_lt (hbd j hj) hK) (by rw [e1, e2]; omega)
    have e3 : mulE a b j i k + entry (zz a.2) i j * entry (zz b.2) j k = mulE a b (j + 1) i k := rfl
    rw [e3] at had
    have hj2 : j < b.2.length := by omega
    simp -implicitDefEqProofs [go_sem, hjl, hi, hj2, g1, g2]; (repeat refine And.intro (by first | decide +kernel | omega | kernel_rfl) ?_); (try decide +kernel)
    refine .inl ⟨_, hm, ?_⟩; simp -implicitDefEqProofs [go_sem]; (repeat refine And.intro (by first | decide +kernel | omega | kernel_rfl) ?_); (try decide +kernel)
    refine .inl ⟨_, had, ?_⟩; simp -implicitDefEqProofs [go_sem]; (repeat refine And.intro (by first | decide +kernel | omega | kernel_rfl) ?_); (try decide +kernel)
    refine ⟨j + 1, ?_⟩; (repeat' apply And.intro) <;> first | omega | assumption | rfl
  · obtain rfl : j = n := by omega
    simp -implicitDefEqProofs [go_sem]; (repeat refine And.intro (by first | decide +kernel | omega | kernel_rfl) ?_); (try decide +kernel)
end Go.Mt
/-
  A part of the proof.
-/
set_option linter.unusedSimpArgs false
set_option linter.unusedVariables false
namespace Go.Mt
open Go Go.Pm Go.Proofs
theorem checks2_p (a b : MR) {K L : Nat} (ha : Gm K a) (hb : Gm L b) : PCall Tryz.prog 120 [.d (.sl [mel a, mel b])] (.one (.d (.v (.int .i64 0)))) := by
  have h := checks_p [a, b] (by simp; exact ⟨⟨ha.d, ha.g⟩, hb.d, hb.g⟩) (by simp)
  have e : checksE [a, b] = 0 := checksE_zero (by simp [ha.check, hb.check])
  rw [e] at h
  exact h
set_option maxRecDepth 100000 in
set_option maxHeartbeats 1000000 in
theorem mulm_p (a b : MR) {K : Nat} (ha : Gm K a) (hb : Gm K b) (hK : 2 * K + 2 < 1099511627776) (hn : b.2.length = colsOf a.2) :
    PCall Tryz.prog 151 [.d (md a), .d (md b)] (.tup [.d (md (nm (mulQ (valM a) (valM b) a.2.length (colsOf a.2) (colsOf b.2)))), .d (.v (.int .i64 0))]) := by
  have hd := mul_p a.1 b.1 ha.d hb.d
  have hdl := zl_mul (ofR a.1) (ofR b.1)
  have hka := ha.kd
  have hkb := hb.kd
  have hcb := colsOf_lt hb.g
  have hent : ∀ i k, i < a.2.length → k < colsOf b.2 → zl (mulE a b (colsOf a.2) i k) ≤ 2 * K + 2 := fun i k hi hk => zl_sumZ (fun j hj => by
    obtain ⟨_, _, e1, h1⟩ := ha.ent hi hj
    obtain ⟨_, _, e2, h2⟩ := hb.ent (i := j) (by omega) hk
    rw [e1, e2]
    have := zl_mul (ofR a.2[i][j]) (ofR b.2[j][k])
    omega) (by have := hb.g.nr; omega)
  have ht := table_p (mulE a b (colsOf a.2)) a.2.length (colsOf b.2) 221 [.bw [.v (.int .i64 (colsOf a.2 : Int))], .bw (mel a), .bw (mel b)] (caps_bw3 _ _ _) ha.g.nr hcb (fun i k hi hk => mul1_p a b ha hb hK _ rfl hn i k hi hk)
  obtain ⟨g1, g2, g3⟩ := grw_tab hK ha.g.nr hcb hent
  have hm := made_q (nrm (ofR a.1 * ofR b.1)) (ztab (mulE a b (colsOf a.2)) a.2.length (colsOf b.2)) (rz (by omega)) (by rw [ofR_nrm]; exact Int.mul_ne_zero ha.ne hb.ne) g1 g2
  have e : fracs (ofR a.1 * ofR b.1) (tableZ (mulE a b (colsOf a.2)) a.2.length (colsOf b.2)) = mulQ (valM a) (valM b) a.2.length (colsOf a.2) (colsOf b.2) := mulZ_eq (zz a.2) (zz b.2) (ofR a.1) (ofR b.1) ha.ne hb.ne _ _ _
  rw [ofR_nrm, zz_tab, e] at hm
  refine pcall_of hmo Tryz.func151 rfl (by kernel_rfl) (by simp [Tryz.ntmps151]) ?_; simp -implicitDefEqProofs [go_sem, Tryz.ntmps151]; (repeat refine And.intro (by first | decide +kernel | omega | kernel_rfl) ?_); (try decide +kernel)
  refine .inl ⟨_, checks2_p a b ha hb, ?_⟩; simp -implicitDefEqProofs [go_sem]; (repeat refine And.intro (by first | decide +kernel | omega | kernel_rfl) ?_); (try decide +kernel)
  refine .inl ⟨_, size_p a ha.g, ?_⟩; simp -implicitDefEqProofs [go_sem]; (repeat refine And.intro (by first | decide +kernel | omega | kernel_rfl) ?_); (try decide +kernel)
  refine .inl ⟨_, size_p b hb.g, ?_⟩; simp -implicitDefEqProofs [go_sem, hn]; (repeat refine And.intro (by first | decide +kernel | omega | kernel_rfl) ?_); (try decide +kernel)
  refine .inl ⟨_, hd, ?_⟩; simp -implicitDefEqProofs [go_sem]; (repeat refine And.intro (by first | decide +kernel | omega | kernel_rfl) ?_); (try decide +kernel)
  refine .inl ⟨_, ht, ?_⟩; simp -implicitDefEqProofs [go_sem]; (repeat refine And.intro (by first | decide +kernel | omega | kernel_rfl) ?_); (try decide +kernel)
  refine .inl ⟨_, hm, ?_⟩; simp -implicitDefEqProofs [go_sem]; (repeat refine And.intro (by first | decide +kernel | omega | kernel_rfl) ?_); (try decide +kernel)
theorem mulm_bound (a b : MR) {K : Nat} (ha : Gm K a) (hb : Gm K b) (hK : 2 * K + 2 < 1099511627776) (hn : b.2.length = colsOf a.2) : Gm (2 * K + 2) (nm (mulQ (valM a) (valM b) a.2.length (colsOf a.2) (colsOf b.2))) := by
  have hdl := zl_mul (ofR a.1) (ofR b.1)
  have hka := ha.kd
  have hkb := hb.kd
  have hcb := colsOf_lt hb.g
  have hent : ∀ i k, i < a.2.length → k < colsOf b.2 → zl (mulE a b (colsOf a.2) i k) ≤ 2 * K + 2 := fun i k hi hk => zl_sumZ (fun j hj => by
    obtain ⟨_, _, e1, h1⟩ := ha.ent hi hj
    obtain ⟨_, _, e2, h2⟩ := hb.ent (i := j) (by omega) hk
    rw [e1, e2]
    have := zl_mul (ofR a.2[i][j]) (ofR b.2[j][k])
    omega) (by have := hb.g.nr; omega)
  obtain ⟨g1, g2, g3⟩ := grw_tab hK ha.g.nr hcb hent
  have h := nm_bound (D := ofR a.1 * ofR b.1) (Int.mul_ne_zero ha.ne hb.ne) g2 g1 hK (by omega) g3
  have e : fracs (ofR a.1 * ofR b.1) (tableZ (mulE a b (colsOf a.2)) a.2.length (colsOf b.2)) = mulQ (valM a) (valM b) a.2.length (colsOf a.2) (colsOf b.2) := mulZ_eq (zz a.2) (zz b.2) (ofR a.1) (ofR b.1) ha.ne hb.ne _ _ _
  rw [zz_tab, e, Nat.max_eq_left (by omega)] at h
  exact h
/-- sizes -/
def sizE (l : List Int) : Int := if l.any (fun x => decide (x < 0)) then 1 else if l.any (fun x => decide (1000 < x)) then 4 else 0
def ies (l : List Int) : List (List D) := l.map fun x => [.v (.int .i64 x)]
@[go_sem] theorem ies_len (l : List Int) : (ies l).length = l.length := by simp [ies]
@[go_sem] theorem ies_ge {l : List Int} {i : Nat} (h : i < (ies l).length) : (ies l)[i] = [.v (.int .i64 (l[i]'(by rw [ies_len] at h; exact h)))] := by simp [ies]
theorem sized_p (l : List Int) (hl : l.length < 549755813888) : PCall Tryz.prog 269 [.d (.sl (ies l))] (.one (.d (.v (.int .i64 (sizE l))))) := by
  refine pcall_of hmo Tryz.func269 rfl (by kernel_rfl) (by simp [Tryz.ntmps269]) ?_; simp -implicitDefEqProofs [go_sem, Tryz.ntmps269]; (repeat refine And.intro (by first | decide +kernel | omega | kernel_rfl) ?_); (try decide +kernel)
  refine loop_rule [] (fun (k : Nat) => ⟨25, [(0, .d (.sl (ies l))), (2, intP .i64 0), (7, .d (.sl (ies l))), (8, intP .i64 (l.length : Int)), (9, intP .i64 (k : Int))], [], 1000⟩)
    (fun k => k ≤ l.length ∧ allK (fun x => decide (0 ≤ x)) l k) (fun k => l.length - k) 0 ⟨Nat.zero_le _, allK_zero _ _⟩ (by simp) (by simp -implicitDefEqProofs [go_sem]) (fun k ⟨hk, ha⟩ => ?_)
  by_cases hkl : k < l.length
  · by_cases h0 : l[k] < 0
    · have e : sizE l = 1 := by unfold sizE; rw [if_pos (any_not hkl (decide_eq_true h0))]
      rw [e]
      simp -implicitDefEqProofs [go_sem, hkl, h0]; (repeat refine And.intro (by first | decide +kernel | omega | kernel_rfl) ?_); (try decide +kernel)
    · have h2 : allK (fun x : Int => decide (0 ≤ x)) l (k + 1) := allK_succ hkl ha (decide_eq_true (by omega))
      simp -implicitDefEqProofs [go_sem, hkl, h0]; (repeat refine And.intro (by first | decide +kernel | omega | kernel_rfl) ?_); (try decide +kernel)
      refine ⟨k + 1, ?_⟩; (repeat' apply And.intro) <;> first | omega | assumption | rfl
  · obtain rfl : k = l.length := by omega
    have h1 := allK_any (q := fun x => decide (x < 0)) ha (fun x hx => by simp at hx ⊢; omega)
    simp -implicitDefEqProofs [go_sem]; (repeat refine And.intro (by first | decide +kernel | omega | kernel_rfl) ?_); (try decide +kernel)
    refine loop_rule [] (fun (k : Nat) => ⟨25, [(0, .d (.sl (ies l))), (2, intP .i64 0), (16, .d (.sl (ies l))), (17, intP .i64 (l.length : Int)), (18, intP .i64 (k : Int))], [], 2000⟩)
      (fun k => k ≤ l.length ∧ allK (fun x => decide (x ≤ 1000)) l k) (fun k => l.length - k) 0 ⟨Nat.zero_le _, allK_zero _ _⟩ (by simp) (by simp -implicitDefEqProofs [go_sem]) (fun k ⟨hk, ha⟩ => ?_)
    by_cases hkl : k < l.length
    · by_cases h0 : 1000 < l[k]
      · have e : sizE l = 4 := by unfold sizE; rw [h1, if_neg (by decide), if_pos (any_not hkl (decide_eq_true h0))]
        rw [e]
        simp -implicitDefEqProofs [go_sem, hkl, h0]; (repeat refine And.intro (by first | decide +kernel | omega | kernel_rfl) ?_); (try decide +kernel)
      · have h2 : allK (fun x : Int => decide (x ≤ 1000)) l (k + 1) := allK_succ hkl ha (decide_eq_true (by omega))
        simp -implicitDefEqProofs [go_sem, hkl, h0]; (repeat refine And.intro (by first | decide +kernel | omega | kernel_rfl) ?_); (try decide +kernel)
        refine ⟨k + 1, ?_⟩; (repeat' apply And.intro) <;> first | omega | assumption | rfl
    · obtain rfl : k = l.length := by omega
      have h2 := allK_any (q := fun x => decide (1000 < x)) ha (fun x hx => by simp at hx ⊢; omega)
      have e : sizE l = 0 := by unfold sizE; rw [h1, h2, if_neg (by decide), if_neg (by decide)]
      rw [e]
      simp -implicitDefEqProofs [go_sem]; (repeat refine And.intro (by first | decide +kernel | omega | kernel_rfl) ?_); (try decide +kernel)
end Go.Mt
/-
  A part of the proof.
-/
set_option linter.unusedSimpArgs false
set_option linter.unusedVariables false
namespace Go.Mt
open Go Go.Pm Go.Proofs
def idZ (i k : Nat) : Int := if i = k then 1 else 0
theorem ident1_p (i k : Nat) (hi : i < 1099511627776) (hk : k < 1099511627776) : PCall Tryz.prog 271 [.d (.v (.int .i64 (i : Int))), .d (.v (.int .i64 (k : Int)))] (.one (.d (zd (nrm (idZ i k))))) := by
  by_cases h : i = k
  · have e : idZ i k = 1 := if_pos h
    rw [e]
    refine pcall_of hmo Tryz.func271 rfl (by kernel_rfl) (by simp [Tryz.ntmps271]) ?_; simp -implicitDefEqProofs [go_sem, Tryz.ntmps271]; (repeat refine And.intro (by first | decide +kernel | omega | kernel_rfl) ?_); (try decide +kernel)
    simp -implicitDefEqProofs [go_sem, h]; (repeat refine And.intro (by first | decide +kernel | omega | kernel_rfl) ?_); (try decide +kernel)
    refine .inl ⟨_, of_p 1 (by decide) (by decide), ?_⟩; simp -implicitDefEqProofs [go_sem]; (repeat refine And.intro (by first | decide +kernel | omega | kernel_rfl) ?_); (try decide +kernel)
  · have e : idZ i k = 0 := if_neg h
    have h' : ¬ (i : Int) = k := by omega
    rw [e]
    refine pcall_of hmo Tryz.func271 rfl (by kernel_rfl) (by simp [Tryz.ntmps271]) ?_; simp -implicitDefEqProofs [go_sem, Tryz.ntmps271]; (repeat refine And.intro (by first | decide +kernel | omega | kernel_rfl) ?_); (try decide +kernel)
    simp -implicitDefEqProofs [go_sem, h, h', nrm_zero, les_nil]; (repeat refine And.intro (by first | decide +kernel | omega | kernel_rfl) ?_); (try decide +kernel)
theorem zero1_p (i k : Nat) : PCall Tryz.prog 270 [.d (.v (.int .i64 (i : Int))), .d (.v (.int .i64 (k : Int)))] (.one (.d (zd (nrm 0)))) := by
  refine pcall_of hmo Tryz.func270 rfl (by kernel_rfl) (by simp [Tryz.ntmps270]) ?_; simp -implicitDefEqProofs [go_sem, Tryz.ntmps270]; (repeat refine And.intro (by first | decide +kernel | omega | kernel_rfl) ?_); (try decide +kernel)
def identQ (n : Nat) : List (List Rat) := tabQ (fun i k => if i = k then 1 else 0) n n
def zeroQ (r c : Nat) : List (List Rat) := tabQ (fun _ _ => 0) r c
theorem ratv_1 (z : Int) : ratv z 1 = (z : Rat) := ratv_one z
theorem frac_id (n : Nat) : fracs 1 (tableZ idZ n n) = identQ n := by
  rw [fracs_table]
  refine tabQ_congr fun i k _ _ => ?_
  rw [ratv_1]; unfold idZ; split <;> rfl
theorem frac_zero (r c : Nat) : fracs 1 (tableZ (fun _ _ => 0) r c) = zeroQ r c := by
  rw [fracs_table]
  exact tabQ_congr fun i k _ _ => ratv_z 1
theorem ident_p (n : Nat) (hn : n ≤ 1000) : PCall Tryz.prog 231 [.d (.v (.int .i64 (n : Int)))] (.tup [.d (md (nm (identQ n))), .d (.v (.int .i64 0))]) := by
  have hs := sized_p [(n : Int)] (by simp)
  have e : sizE [(n : Int)] = 0 := by
    have h1 : ¬ (n : Int) < 0 := by omega
    have h2 : ¬ (1000 : Int) < n := by omega
    simp [sizE, h1, h2]
  rw [e] at hs
  have ht := table_p idZ n n 271 [] caps_nil (by omega) (by omega) (fun i k hi hk => ident1_p i k (by omega) (by omega))
  obtain ⟨g1, g2, g3⟩ := grw_tab (K := 1) (f := idZ) (r := n) (c := n) (by decide) (by omega) (by omega) (fun i k _ _ => by unfold idZ; split <;> decide)
  have hm := made_q (nrm 1) (ztab idZ n n) (rz (by decide)) (by rw [ofR_nrm]; decide) g1 g2
  rw [ofR_nrm, zz_tab, frac_id] at hm
  refine pcall_of hmo Tryz.func231 rfl (by kernel_rfl) (by simp [Tryz.ntmps231]) ?_; simp -implicitDefEqProofs [go_sem, Tryz.ntmps231]; (repeat refine And.intro (by first | decide +kernel | omega | kernel_rfl) ?_); (try decide +kernel)
  refine .inl ⟨_, hs, ?_⟩; simp -implicitDefEqProofs [go_sem]; (repeat refine And.intro (by first | decide +kernel | omega | kernel_rfl) ?_); (try decide +kernel)
  refine .inl ⟨_, of_p 1 (by decide) (by decide), ?_⟩; simp -implicitDefEqProofs [go_sem]; (repeat refine And.intro (by first | decide +kernel | omega | kernel_rfl) ?_); (try decide +kernel)
  refine .inl ⟨_, ht, ?_⟩; simp -implicitDefEqProofs [go_sem]; (repeat refine And.intro (by first | decide +kernel | omega | kernel_rfl) ?_); (try decide +kernel)
  refine .inl ⟨_, hm, ?_⟩; simp -implicitDefEqProofs [go_sem]; (repeat refine And.intro (by first | decide +kernel | omega | kernel_rfl) ?_); (try decide +kernel)
theorem zero_p (r c : Nat) (hr : r ≤ 1000) (hc : c ≤ 1000) : PCall Tryz.prog 230 [.d (.v (.int .i64 (r : Int))), .d (.v (.int .i64 (c : Int)))] (.tup [.d (md (nm (zeroQ r c))), .d (.v (.int .i64 0))]) := by
  have hs := sized_p [(r : Int), (c : Int)] (by simp)
  have e : sizE [(r : Int), (c : Int)] = 0 := by
    have h1 : ¬ (r : Int) < 0 := by omega
    have h2 : ¬ (1000 : Int) < r := by omega
    have h3 : ¬ (c : Int) < 0 := by omega
    have h4 : ¬ (1000 : Int) < c := by omega
    simp [sizE, h1, h2, h3, h4]
  rw [e] at hs
  have ht := table_p (fun _ _ => 0) r c 270 [] caps_nil (by omega) (by omega) (fun i k _ _ => zero1_p i k)
  obtain ⟨g1, g2, g3⟩ := grw_tab (K := 1) (f := fun _ _ => 0) (r := r) (c := c) (by decide) (by omega) (by omega) (fun i k _ _ => by decide)
  have hm := made_q (nrm 1) (ztab (fun _ _ => 0) r c) (rz (by decide)) (by rw [ofR_nrm]; decide) g1 g2
  rw [ofR_nrm, zz_tab, frac_zero] at hm
  refine pcall_of hmo Tryz.func230 rfl (by kernel_rfl) (by simp [Tryz.ntmps230]) ?_; simp -implicitDefEqProofs [go_sem, Tryz.ntmps230]; (repeat refine And.intro (by first | decide +kernel | omega | kernel_rfl) ?_); (try decide +kernel)
  refine .inl ⟨_, hs, ?_⟩; simp -implicitDefEqProofs [go_sem]; (repeat refine And.intro (by first | decide +kernel | omega | kernel_rfl) ?_); (try decide +kernel)
  refine .inl ⟨_, of_p 1 (by decide) (by decide), ?_⟩; simp -implicitDefEqProofs [go_sem]; (repeat refine And.intro (by first | decide +kernel | omega | kernel_rfl) ?_); (try decide +kernel)
  refine .inl ⟨_, ht, ?_⟩; simp -implicitDefEqProofs [go_sem]; (repeat refine And.intro (by first | decide +kernel | omega | kernel_rfl) ?_); (try decide +kernel)
  refine .inl ⟨_, hm, ?_⟩; simp -implicitDefEqProofs [go_sem]; (repeat refine And.intro (by first | decide +kernel | omega | kernel_rfl) ?_); (try decide +kernel)
set_option maxRecDepth 100000 in
set_option maxHeartbeats 1000000 in
theorem scale1_p (m : MR) (q : Rat) {K : Nat} (hm : Gm K m) (hK : K < 1099511627776) (hq : ql q < 1099511627776) (i k : Nat) (hi : i < m.2.length) (hk : k < colsOf m.2) :
    PCall Tryz.prog 233 [.d (.v (.int .i64 (i : Int))), .d (.v (.int .i64 (k : Int))), .bw (mel m), .bw (qel (nq q))] (.one (.d (zd (nrm (entry (zz m.2) i k * q.num))))) := by
  obtain ⟨g1, r1, e1, k1⟩ := hm.ent hi hk
  have hc := mul_p m.2[i][k] (nrm q.num) r1 (rz (Nat.lt_of_le_of_lt (ql_num q) hq))
  rw [ofR_nrm, ← e1] at hc
  refine pcall_of hmo Tryz.func233 rfl (by kernel_rfl) (by simp [Tryz.ntmps233]) ?_; simp -implicitDefEqProofs [go_sem, Tryz.ntmps233]; (repeat refine And.intro (by first | decide +kernel | omega | kernel_rfl) ?_); (try decide +kernel)
  simp -implicitDefEqProofs [go_sem, hi, g1]; (repeat refine And.intro (by first | decide +kernel | omega | kernel_rfl) ?_); (try decide +kernel)
  refine .inl ⟨_, hc, ?_⟩; simp -implicitDefEqProofs [go_sem]; (repeat refine And.intro (by first | decide +kernel | omega | kernel_rfl) ?_); (try decide +kernel)
set_option maxRecDepth 100000 in
set_option maxHeartbeats 1000000 in
theorem scale_p (m : MR) (c : QR) {K : Nat} (hm : Gm K m) (hc : Gq c) (hq : ql (ofQ c) ≤ K) (hK : 2 * K < 1099511627776) :
    PCall Tryz.prog 163 [.d (md m), .d (qd c)] (.tup [.d (md (nm (scaleQ (valM m) (ofQ c) m.2.length (colsOf m.2)))), .d (.v (.int .i64 0))]) := by
  have hck := check_p m hm.d hm.g
  rw [hm.check] at hck
  have hn := ql_num (ofQ c)
  have hdn := ql_den (ofQ c)
  have hcl := colsOf_lt hm.g
  have hd := mul_p m.1 (nrm ((ofQ c).den : Int)) hm.d (rz (by omega))
  rw [ofR_nrm] at hd
  have hent : ∀ i k, i < m.2.length → k < colsOf m.2 → zl (entry (zz m.2) i k * (ofQ c).num) ≤ 2 * K := fun i k hi hk => by
    obtain ⟨_, _, e1, h1⟩ := hm.ent hi hk
    rw [e1]
    have := zl_mul (ofR m.2[i][k]) (ofQ c).num
    omega
  have ht := table_p (fun i k => entry (zz m.2) i k * (ofQ c).num) m.2.length (colsOf m.2) 233 [.bw (mel m), .bw (qel (nq (ofQ c)))] (caps_bw2 _ _) hm.g.nr hcl (fun i k hi hk => scale1_p m (ofQ c) hm (by omega) (by omega) i k hi hk)
  obtain ⟨g1, g2, g3⟩ := grw_tab (K := 2 * K) (by omega) hm.g.nr hcl hent
  have hdl := zl_mul (ofR m.1) ((ofQ c).den : Int)
  have hkd := hm.kd
  have hmd := made_q (nrm (ofR m.1 * ((ofQ c).den : Int))) _ (rz (by omega)) (by rw [ofR_nrm]; exact Int.mul_ne_zero hm.ne (den_ne _)) g1 g2
  rw [ofR_nrm, zz_tab, scaleZ_eq, ratv_self] at hmd
  refine pcall_of hmo Tryz.func163 rfl (by kernel_rfl) (by simp [Tryz.ntmps163]) ?_; simp -implicitDefEqProofs [go_sem, Tryz.ntmps163]; (repeat refine And.intro (by first | decide +kernel | omega | kernel_rfl) ?_); (try decide +kernel)
  refine .inl ⟨_, hck, ?_⟩; simp -implicitDefEqProofs [go_sem]; (repeat refine And.intro (by first | decide +kernel | omega | kernel_rfl) ?_); (try decide +kernel)
  refine .inl ⟨_, norm_p c hc.rq hc.ne, ?_⟩; simp -implicitDefEqProofs [go_sem]; (repeat refine And.intro (by first | decide +kernel | omega | kernel_rfl) ?_); (try decide +kernel)
  refine .inl ⟨_, size_p m hm.g, ?_⟩; simp -implicitDefEqProofs [go_sem]; (repeat refine And.intro (by first | decide +kernel | omega | kernel_rfl) ?_); (try decide +kernel)
  refine .inl ⟨_, hd, ?_⟩; simp -implicitDefEqProofs [go_sem]; (repeat refine And.intro (by first | decide +kernel | omega | kernel_rfl) ?_); (try decide +kernel)
  refine .inl ⟨_, ht, ?_⟩; simp -implicitDefEqProofs [go_sem]; (repeat refine And.intro (by first | decide +kernel | omega | kernel_rfl) ?_); (try decide +kernel)
  refine .inl ⟨_, hmd, ?_⟩; simp -implicitDefEqProofs [go_sem]; (repeat refine And.intro (by first | decide +kernel | omega | kernel_rfl) ?_); (try decide +kernel)
  rfl
end Go.Mt
/-
  A part of the proof.
-/
set_option linter.unusedSimpArgs false
set_option linter.unusedVariables false
namespace Go.Mt
open Go Go.Pm Go.Proofs
def mbx (m : MR) : List PV := [.d (.v (.bool m.1.1)), .d (.sl (les m.1.2)), .d (.sl (rws m.2))]
def hsJ (g : FuncId) (a b : MR) : Heap := [(8, .box [.fn g []]), (0, .box (mbx a)), (4, .box (mbx b))]
attribute [go_sem] mbx hsJ
/-- an operation on two numbers -/
structure OpN (g : FuncId) (f : Int → Int → Int) : Prop where
  call : ∀ x y : Int, zl x < 1099511627776 → zl y < 1099511627776 → PCall Tryz.prog g [.d (zd (nrm x)), .d (zd (nrm y))] (.one (.d (zd (nrm (f x y)))))
  zl : ∀ x y : Int, zl (f x y) ≤ max (Go.Mt.zl x) (Go.Mt.zl y) + 1
def joinE (f : Int → Int → Int) (a b : MR) (i k : Nat) : Int := f (entry (zz a.2) i k * ofR b.1) (entry (zz b.2) i k * ofR a.1)
set_option maxRecDepth 100000 in
set_option maxHeartbeats 4000000 in
theorem joinC_h (a b : MR) {K : Nat} {g : FuncId} {f : Int → Int → Int} (hf : OpN g f) (ha : Gm K a) (hb : Gm K b) (hK : 2 * K + 2 < 1099511627776) (hn : b.2.length = a.2.length) (hc : colsOf b.2 = colsOf a.2) (i k : Nat) (hi : i < a.2.length) (hk : k < colsOf a.2) :
    HCall Tryz.prog 266 [.d (.v (.int .i64 (i : Int))), .d (.v (.int .i64 (k : Int))), .pr 8 0 0 0, .pr 0 0 0 0, .pr 4 0 0 0] (hsJ g a b) 8028 (.agg [.d (.v (.bool (nrm (joinE f a b i k)).1)), .d (.sl (les (nrm (joinE f a b i k)).2))]) (hsJ g a b) := by
  obtain ⟨g1, r1, e1, k1⟩ := ha.ent hi hk
  obtain ⟨g2, r2, e2, k2⟩ := hb.ent (i := i) (k := k) (by omega) (by omega)
  have hm1 := mul_p a.2[i][k] b.1 r1 hb.d
  have hm2 := mul_p b.2[i][k] a.1 r2 ha.d
  have hl1 := zl_mul (ofR a.2[i][k]) (ofR b.1)
  have hl2 := zl_mul (ofR b.2[i][k]) (ofR a.1)
  have := ha.kd
  have := hb.kd
  have hop := hf.call (ofR a.2[i][k] * ofR b.1) (ofR b.2[i][k] * ofR a.1) (by omega) (by omega)
  have hi2 : i < b.2.length := by omega
  unfold joinE
  rw [e1, e2]
  refine hcall_of (L := []) hmo Tryz.func266 rfl (by kernel_rfl) (by simp [Tryz.ntmps266]) (by simp -implicitDefEqProofs [go_sem]) (by simp -implicitDefEqProofs [go_sem]) ?_
  simp -implicitDefEqProofs [go_sem, Tryz.ntmps266, hi, hi2, g1, g2]
  refine .inl ⟨_, hm1, ?_⟩; simp -implicitDefEqProofs [go_sem, hi, hi2, g1, g2]; (repeat refine And.intro (by first | decide +kernel | omega | kernel_rfl) ?_); (try decide +kernel)
  refine .inl ⟨_, hm2, ?_⟩; simp -implicitDefEqProofs [go_sem, hi, hi2, g1, g2]; (repeat refine And.intro (by first | decide +kernel | omega | kernel_rfl) ?_); (try decide +kernel)
  refine .inl ⟨_, hop, ?_⟩; simp -implicitDefEqProofs [go_sem, hi, hi2, g1, g2]; (repeat refine And.intro (by first | decide +kernel | omega | kernel_rfl) ?_); (try decide +kernel)
set_option maxHeartbeats 1000000 in
theorem tableJ_h (a b : MR) {K : Nat} {g : FuncId} {f : Int → Int → Int} (hf : OpN g f) (ha : Gm K a) (hb : Gm K b) (hK : 2 * K + 2 < 1099511627776) (hn : b.2.length = a.2.length) (hc : colsOf b.2 = colsOf a.2) :
    HCall Tryz.prog 108 [.d (.v (.int .i64 (a.2.length : Int))), .d (.v (.int .i64 (colsOf a.2 : Int))), .fn 266 [.pr 8 0 0 0, .pr 0 0 0 0, .pr 4 0 0 0]] (hsJ g a b) 168 (.sr 168 a.2.length)
      (hsJ g a b ++ [(168, .arr ⟨30, 1, a.2.length, false, rws (ztab (joinE f a b) a.2.length (colsOf a.2))⟩)]) := by
  have hnr := ha.g.nr
  have hnc := colsOf_lt ha.g
  refine hcall_of (L := [184]) hmo Tryz.func108 rfl (by kernel_rfl) (by simp [Tryz.ntmps108]) (by simp -implicitDefEqProofs [go_sem]) (by simp -implicitDefEqProofs [go_sem]) ?_
  simp -implicitDefEqProofs [go_sem, Tryz.ntmps108]
  refine loop_rule [.arr 7 30 1] (fun (i : Nat) => ⟨35, [(1, intP .i64 (colsOf a.2 : Int)), (2, .fn 266 [.pr 8 0 0 0, .pr 0 0 0 0, .pr 4 0 0 0]), (7, .sr 184 i), (11, intP .i64 (a.2.length : Int)), (12, intP .i64 (i : Int))],
    (184, .arr ⟨30, 1, i, false, rws ((ztab (joinE f a b) a.2.length (colsOf a.2)).take i)⟩) :: hsJ g a b, 7000⟩)
    (fun i => i ≤ a.2.length) (fun i => a.2.length - i) 0 (Nat.zero_le _) (by simp) (by simp -implicitDefEqProofs [go_sem, rws]) (fun i hi => ?_)
  by_cases hil : i < a.2.length
  · simp -implicitDefEqProofs [go_sem, hil]; (repeat refine And.intro (by first | decide +kernel | omega | kernel_rfl) ?_); (try decide +kernel)
    refine loop_rule [] (fun (k : Nat) => ⟨35, [(1, intP .i64 (colsOf a.2 : Int)), (2, .fn 266 [.pr 8 0 0 0, .pr 0 0 0 0, .pr 4 0 0 0]), (7, .sr 184 i), (8, intP .i64 (i : Int)), (9, .sr 7016 k), (11, intP .i64 (a.2.length : Int)), (12, intP .i64 (i : Int)), (17, intP .i64 (colsOf a.2 : Int)), (18, intP .i64 (k : Int))],
      (7016, .arr ⟨25, 2, k, false, zes ((zrow (joinE f a b) (colsOf a.2) i).take k)⟩) :: (184, .arr ⟨30, 1, i, false, rws ((ztab (joinE f a b) a.2.length (colsOf a.2)).take i)⟩) :: hsJ g a b, 8000⟩)
      (fun k => k ≤ colsOf a.2) (fun k => colsOf a.2 - k) 0 (Nat.zero_le _) (by simp) (by simp -implicitDefEqProofs [go_sem, zes]) (fun k hk => ?_)
    by_cases hkl : k < colsOf a.2
    · simp -implicitDefEqProofs [go_sem, hkl]; (repeat refine And.intro (by first | decide +kernel | omega | kernel_rfl) ?_); (try decide +kernel)
      refine .inr ⟨hsJ g a b, _, _, joinC_h a b hf ha hb hK hn hc i k hil hkl, by simp -implicitDefEqProofs [go_sem], ?_⟩
      simp -implicitDefEqProofs [go_sem]; (repeat refine And.intro (by first | decide +kernel | omega | kernel_rfl) ?_); (try decide +kernel)
      refine ⟨k + 1, ?_⟩; (repeat' apply And.intro) <;> first | omega | (exact take_snoc zel (zrow (joinE f a b) (colsOf a.2) i) (by rw [zrow_len]; exact hkl) (by simp [zel, zrow])) | assumption | rfl
    · obtain rfl : k = colsOf a.2 := by omega
      rw [take_all (zrow_len (joinE f a b) (colsOf a.2) i)]
      simp -implicitDefEqProofs [go_sem]; (repeat refine And.intro (by first | decide +kernel | omega | kernel_rfl) ?_); (try decide +kernel)
      refine ⟨i + 1, ?_⟩; (repeat' apply And.intro) <;> first | omega | (exact take_snoc rel (ztab (joinE f a b) a.2.length (colsOf a.2)) (by rw [ztab_len]; exact hil) (by simp [rel, ztab])) | assumption | rfl
  · obtain rfl : i = a.2.length := by omega
    rw [take_all (ztab_len (joinE f a b) a.2.length (colsOf a.2))]
    simp -implicitDefEqProofs [go_sem]; (repeat refine And.intro (by first | decide +kernel | omega | kernel_rfl) ?_); (try decide +kernel)
set_option maxRecDepth 100000 in
set_option maxHeartbeats 2000000 in
theorem join_p (a b : MR) {K : Nat} {g : FuncId} {f : Int → Int → Int} (hf : OpN g f) (ha : Gm K a) (hb : Gm K b) (hK : 2 * K + 2 < 1099511627776) (hn : b.2.length = a.2.length) (hc : colsOf b.2 = colsOf a.2) :
    PCall Tryz.prog 223 [.d (md a), .d (md b), .fn g []] (.tup [.d (md (nm (fracs (ofR a.1 * ofR b.1) (tableZ (joinE f a b) a.2.length (colsOf a.2))))), .d (.v (.int .i64 0))]) := by
  have hd := mul_p a.1 b.1 ha.d hb.d
  have hdl := zl_mul (ofR a.1) (ofR b.1)
  have := ha.kd
  have := hb.kd
  have hcl := colsOf_lt ha.g
  have hent : ∀ i k, i < a.2.length → k < colsOf a.2 → zl (joinE f a b i k) ≤ 2 * K + 1 := fun i k hi hk => by
    obtain ⟨_, _, e1, k1⟩ := ha.ent hi hk
    obtain ⟨_, _, e2, k2⟩ := hb.ent (i := i) (k := k) (by omega) (by omega)
    unfold joinE
    rw [e1, e2]
    have h1 := zl_mul (ofR a.2[i][k]) (ofR b.1)
    have h2 := zl_mul (ofR b.2[i][k]) (ofR a.1)
    have := hf.zl (ofR a.2[i][k] * ofR b.1) (ofR b.2[i][k] * ofR a.1)
    omega
  obtain ⟨g1, g2, g3⟩ := grw_tab (K := 2 * K + 1) (by omega) ha.g.nr hcl hent
  have hm := made_q (nrm (ofR a.1 * ofR b.1)) _ (rz (by omega)) (by rw [ofR_nrm]; exact Int.mul_ne_zero ha.ne hb.ne) g1 g2
  rw [ofR_nrm, zz_tab] at hm
  refine pcall_of hmo Tryz.func223 rfl (by kernel_rfl) (by simp [Tryz.ntmps223]) ?_; simp -implicitDefEqProofs [go_sem, Tryz.ntmps223]; (repeat refine And.intro (by first | decide +kernel | omega | kernel_rfl) ?_); (try decide +kernel)
  refine .inl ⟨_, checks2_p a b ha hb, ?_⟩; simp -implicitDefEqProofs [go_sem]; (repeat refine And.intro (by first | decide +kernel | omega | kernel_rfl) ?_); (try decide +kernel)
  refine .inl ⟨_, size_p a ha.g, ?_⟩; simp -implicitDefEqProofs [go_sem]; (repeat refine And.intro (by first | decide +kernel | omega | kernel_rfl) ?_); (try decide +kernel)
  refine .inl ⟨_, size_p b hb.g, ?_⟩; simp -implicitDefEqProofs [go_sem, hn, hc]; (repeat refine And.intro (by first | decide +kernel | omega | kernel_rfl) ?_); (try decide +kernel)
  refine .inl ⟨_, hd, ?_⟩; simp -implicitDefEqProofs [go_sem]; (repeat refine And.intro (by first | decide +kernel | omega | kernel_rfl) ?_); (try decide +kernel)
  refine .inr ⟨hsJ g a b, _, _, tableJ_h a b hf ha hb hK hn hc, by simp -implicitDefEqProofs [go_sem], ?_⟩
  simp -implicitDefEqProofs [go_sem]; (repeat refine And.intro (by first | decide +kernel | omega | kernel_rfl) ?_); (try decide +kernel)
  refine .inl ⟨_, hm, ?_⟩; simp -implicitDefEqProofs [go_sem]; (repeat refine And.intro (by first | decide +kernel | omega | kernel_rfl) ?_); (try decide +kernel)
end Go.Mt
/-
  A part of the proof.
-/
set_option linter.unusedSimpArgs false
set_option linter.unusedVariables false
namespace Go.Mt
open Go Go.Pm Go.Proofs
theorem opAdd : OpN 222 (· + ·) := ⟨fun x y hx hy => add_n x y hx hy, fun x y => zl_add x y⟩
theorem opSub : OpN 224 (· - ·) := ⟨fun x y hx hy => sub_n x y hx hy, fun x y => by
  have h := zl_add x (-y)
  rw [zl_neg] at h
  exact h⟩
theorem qadd_m (a b : MR) {K : Nat} (ha : Gm K a) (hb : Gm K b) (hK : 2 * K + 2 < 1099511627776) (hn : b.2.length = a.2.length) (hc : colsOf b.2 = colsOf a.2) :
    PCall Tryz.prog 164 [.d (md a), .d (md b)] (.tup [.d (md (nm (joinQ (· + ·) (valM a) (valM b) a.2.length (colsOf a.2)))), .d (.v (.int .i64 0))]) := by
  have h := join_p a b opAdd ha hb hK hn hc
  have e : fracs (ofR a.1 * ofR b.1) (tableZ (joinE (· + ·) a b) a.2.length (colsOf a.2)) = joinQ (· + ·) (valM a) (valM b) a.2.length (colsOf a.2) := addZ_eq (zz a.2) (zz b.2) (ofR a.1) (ofR b.1) ha.ne hb.ne _ _
  rw [e] at h
  refine pcall_of hmo Tryz.func164 rfl (by kernel_rfl) (by simp [Tryz.ntmps164]) ?_; simp -implicitDefEqProofs [go_sem, Tryz.ntmps164]; (repeat refine And.intro (by first | decide +kernel | omega | kernel_rfl) ?_); (try decide +kernel)
  refine .inl ⟨_, h, ?_⟩; simp -implicitDefEqProofs [go_sem]; (repeat refine And.intro (by first | decide +kernel | omega | kernel_rfl) ?_); (try decide +kernel)
theorem qsub_m (a b : MR) {K : Nat} (ha : Gm K a) (hb : Gm K b) (hK : 2 * K + 2 < 1099511627776) (hn : b.2.length = a.2.length) (hc : colsOf b.2 = colsOf a.2) :
    PCall Tryz.prog 152 [.d (md a), .d (md b)] (.tup [.d (md (nm (joinQ (· - ·) (valM a) (valM b) a.2.length (colsOf a.2)))), .d (.v (.int .i64 0))]) := by
  have h := join_p a b opSub ha hb hK hn hc
  have e : fracs (ofR a.1 * ofR b.1) (tableZ (joinE (· - ·) a b) a.2.length (colsOf a.2)) = joinQ (· - ·) (valM a) (valM b) a.2.length (colsOf a.2) := subZ_eq (zz a.2) (zz b.2) (ofR a.1) (ofR b.1) ha.ne hb.ne _ _
  rw [e] at h
  refine pcall_of hmo Tryz.func152 rfl (by kernel_rfl) (by simp [Tryz.ntmps152]) ?_; simp -implicitDefEqProofs [go_sem, Tryz.ntmps152]; (repeat refine And.intro (by first | decide +kernel | omega | kernel_rfl) ?_); (try decide +kernel)
  refine .inl ⟨_, h, ?_⟩; simp -implicitDefEqProofs [go_sem]; (repeat refine And.intro (by first | decide +kernel | omega | kernel_rfl) ?_); (try decide +kernel)
theorem gm_of {m : MR} (hd : Rz m.1) (hg : Grw m.2) (hc : checkE m = 0) : Gm 1099511627775 m := by
  unfold checkE at hc
  split at hc
  · simp at hc
  · rename_i h0
    split at hc
    · rename_i h1
      exact ⟨hd, h0, hg, h1, fun r hr z hz => by have := zl_lt (hg.rz r hr z hz); omega, by have := zl_lt hd; omega⟩
    · simp at hc
theorem normm_p (m : MR) (hd : Rz m.1) (hg : Grw m.2) (hc : checkE m = 0) : PCall Tryz.prog 29 [.d (md m)] (.tup [.d (md (nm (valM m))), .d (.v (.int .i64 0))]) := by
  have h := check_p m hd hg
  rw [hc] at h
  have hm := gm_of hd hg hc
  have hmd := made_q m.1 m.2 hd hm.ne hg hm.ev
  refine pcall_of hmo Tryz.func29 rfl (by kernel_rfl) (by simp [Tryz.ntmps29]) ?_; simp -implicitDefEqProofs [go_sem, Tryz.ntmps29]; (repeat refine And.intro (by first | decide +kernel | omega | kernel_rfl) ?_); (try decide +kernel)
  refine .inl ⟨_, h, ?_⟩; simp -implicitDefEqProofs [go_sem]; (repeat refine And.intro (by first | decide +kernel | omega | kernel_rfl) ?_); (try decide +kernel)
  refine .inl ⟨_, hmd, ?_⟩; simp -implicitDefEqProofs [go_sem]; (repeat refine And.intro (by first | decide +kernel | omega | kernel_rfl) ?_); (try decide +kernel)
  rfl
theorem normm_e (m : MR) (hd : Rz m.1) (hg : Grw m.2) (hc : checkE m ≠ 0) : PCall Tryz.prog 29 [.d (md m)] (.tup [.d mE, .d (.v (.int .i64 (checkE m)))]) := by
  refine pcall_of hmo Tryz.func29 rfl (by kernel_rfl) (by simp [Tryz.ntmps29]) ?_; simp -implicitDefEqProofs [go_sem, Tryz.ntmps29]; (repeat refine And.intro (by first | decide +kernel | omega | kernel_rfl) ?_); (try decide +kernel)
  refine .inl ⟨_, check_p m hd hg, ?_⟩; simp -implicitDefEqProofs [go_sem, hc]; (repeat refine And.intro (by first | decide +kernel | omega | kernel_rfl) ?_); (try decide +kernel)
/-- rows of fractions in normal form -/
def qrw (qs : List Rat) : List D := [.sl (qes (qs.map nq))]
def qrs (qss : List (List Rat)) : List (List D) := qss.map qrw
attribute [go_sem] qrw
@[go_sem] theorem qrs_len (l : List (List Rat)) : (qrs l).length = l.length := by simp [qrs]
@[go_sem] theorem qrs_ge {l : List (List Rat)} {i : Nat} (h : i < (qrs l).length) : (qrs l)[i] = qrw (l[i]'(by rw [qrs_len] at h; exact h)) := by simp [qrs]
def valR (d : Int) (r : List ZR) : List Rat := r.map fun z => ratv (ofR z) d
theorem valM_rows (m : MR) : valM m = m.2.map (valR (ofR m.1)) := by
  unfold valM fracs zz valR
  rw [List.map_map]
  refine List.map_congr_left fun r _ => ?_
  simp [Function.comp]
@[go_sem] theorem valR_len (d : Int) (r : List ZR) : (valR d r).length = r.length := by simp [valR]
@[go_sem] theorem valM_len (m : MR) : (valM m).length = m.2.length := by rw [valM_rows, List.length_map]
theorem rows_e (m : MR) (hd : Rz m.1) (hg : Grw m.2) (hc : checkE m ≠ 0) : PCall Tryz.prog 30 [.d (md m)] (.tup [.d (.sl []), .d (.v (.int .i64 (checkE m)))]) := by
  refine pcall_of hmo Tryz.func30 rfl (by kernel_rfl) (by simp [Tryz.ntmps30]) ?_; simp -implicitDefEqProofs [go_sem, Tryz.ntmps30]; (repeat refine And.intro (by first | decide +kernel | omega | kernel_rfl) ?_); (try decide +kernel)
  refine .inl ⟨_, check_p m hd hg, ?_⟩; simp -implicitDefEqProofs [go_sem, hc]; (repeat refine And.intro (by first | decide +kernel | omega | kernel_rfl) ?_); (try decide +kernel)
set_option maxHeartbeats 2000000 in
theorem rows_p (m : MR) (hd : Rz m.1) (hg : Grw m.2) (hc : checkE m = 0) : PCall Tryz.prog 30 [.d (md m)] (.tup [.d (.sl (qrs (valM m))), .d (.v (.int .i64 0))]) := by
  have h := check_p m hd hg
  rw [hc] at h
  have hm := gm_of hd hg hc
  have hnr := hg.nr
  refine pcall_of hmo Tryz.func30 rfl (by kernel_rfl) (by simp [Tryz.ntmps30]) ?_; simp -implicitDefEqProofs [go_sem, Tryz.ntmps30]; (repeat refine And.intro (by first | decide +kernel | omega | kernel_rfl) ?_); (try decide +kernel)
  refine .inl ⟨_, h, ?_⟩; simp -implicitDefEqProofs [go_sem]; (repeat refine And.intro (by first | decide +kernel | omega | kernel_rfl) ?_); (try decide +kernel)
  refine loop_rule [.arr 5 68 1] (fun (i : Nat) => ⟨52, [(1, .pr 0 0 0 0), (3, intP .i64 0), (5, .sr 52 i), (19, .d (.sl (rws m.2))), (20, intP .i64 (m.2.length : Int)), (21, intP .i64 (i : Int))],
    [(52, .arr ⟨68, 1, i, false, qrs ((valM m).take i)⟩), (0, .box (mbx m))], 7000⟩)
    (fun i => i ≤ m.2.length) (fun i => m.2.length - i) 0 (Nat.zero_le _) (by simp) (by simp -implicitDefEqProofs [go_sem, qrs]) (fun i hi => ?_)
  by_cases hil : i < m.2.length
  · obtain ⟨row, hrow⟩ : ∃ row, row = m.2[i] := ⟨_, rfl⟩
    have hrm : row ∈ m.2 := hrow ▸ List.getElem_mem hil
    have hrl := hg.nc row hrm
    have hrl2 : m.2[i].length < 549755813888 := hrow ▸ hrl
    have hvi : (valM m)[i]'(by rw [valM_len]; exact hil) = valR (ofR m.1) row := by
      simp only [valM_rows, List.getElem_map, hrow]
    simp -implicitDefEqProofs [go_sem, hil]; (repeat refine And.intro (by first | decide +kernel | omega | kernel_rfl) ?_); (try decide +kernel)
    rw [← hrow]
    refine loop_rule [] (fun (k : Nat) => ⟨52, [(1, .pr 0 0 0 0), (3, intP .i64 0), (5, .sr 52 i), (8, .sr 7024 k), (19, .d (.sl (rws m.2))), (20, intP .i64 (m.2.length : Int)), (21, intP .i64 (i : Int)), (28, .d (.sl (zes row))), (29, intP .i64 (row.length : Int)), (30, intP .i64 (k : Int))],
      [(7024, .arr ⟨72, 4, k, false, qes (((valR (ofR m.1) row).map nq).take k)⟩), (52, .arr ⟨68, 1, i, false, qrs ((valM m).take i)⟩), (0, .box (mbx m))], 8000⟩)
      (fun k => k ≤ row.length) (fun k => row.length - k) 0 (Nat.zero_le _) (by simp) (by simp -implicitDefEqProofs [go_sem, qes]) (fun k hk => ?_)
    by_cases hkl : k < row.length
    · have hmk := make_p row[k] m.1 (hg.rz row hrm _ (List.getElem_mem hkl)) hd hm.ne
      simp -implicitDefEqProofs [go_sem, hkl]; (repeat refine And.intro (by first | decide +kernel | omega | kernel_rfl) ?_); (try decide +kernel)
      refine .inl ⟨_, hmk, ?_⟩; simp -implicitDefEqProofs [go_sem]; (repeat refine And.intro (by first | decide +kernel | omega | kernel_rfl) ?_); (try decide +kernel)
      refine ⟨k + 1, ?_⟩; (repeat' apply And.intro) <;> first | omega | (exact take_snoc qel ((valR (ofR m.1) row).map nq) (by simpa [valR_len] using hkl) (by simp [qel, valR, nq_1, nq_2])) | assumption | rfl
    · obtain rfl : k = row.length := by omega
      rw [take_all (show ((valR (ofR m.1) row).map nq).length = row.length by simp [valR_len])]
      simp -implicitDefEqProofs [go_sem]; (repeat refine And.intro (by first | decide +kernel | omega | kernel_rfl) ?_); (try decide +kernel)
      refine ⟨i + 1, ?_⟩; (repeat' apply And.intro) <;> first | omega | (exact take_snoc qrw (valM m) (by rw [valM_len]; exact hil) (by rw [hvi]; rfl)) | assumption | rfl
  · obtain rfl : i = m.2.length := by omega
    rw [take_all (valM_len m)]
    simp -implicitDefEqProofs [go_sem]; (repeat refine And.intro (by first | decide +kernel | omega | kernel_rfl) ?_); (try decide +kernel)
theorem eachR_h (qss : List (List Rat)) (n : Nat) : HCall Tryz.prog 122 [.d (.sl (qrs qss))] [] n (.fn 198 [.pr n 0 0 0]) [(n, .box [.d (.sl (qrs qss))])] := by
  refine hcall_of (L := [n]) hmo Tryz.func122 rfl (by kernel_rfl) (by simp [Tryz.ntmps122]) (by simp -implicitDefEqProofs [go_sem]) (by simp -implicitDefEqProofs [go_sem]) ?_
  simp -implicitDefEqProofs [go_sem, Tryz.ntmps122]
theorem height_n (qs : List Rat) (hn : qs.length < 549755813888) (hb : ∀ q ∈ qs, ql q < 549755813888) : PCall Tryz.prog 123 [.d (.sl (qes (qs.map nq)))] (.tup [.d (.v (.int .i64 (qhs qs : Int))), .d (.v (.int .i64 0))]) := by
  have h := height_p (qs.map nq) (fun x hx => by
    obtain ⟨q, hq, rfl⟩ := List.mem_map.1 hx
    have := Gq.n q (by have := hb q hq; omega)
    exact ⟨this.rq, this.ne⟩) (by simpa using hn) (fun x hx => by
    obtain ⟨q, hq, rfl⟩ := List.mem_map.1 hx
    rw [ofQ_nq]; exact hb q hq)
  have e : (qs.map nq).map ofQ = qs := by
    rw [List.map_map]
    conv => rhs; rw [← List.map_id qs]
    exact List.map_congr_left fun q _ => ofQ_nq q
  rw [e] at h
  exact h
def flt (V : List (List Rat)) (i : Nat) : List Rat := (V.take i).flatten
def fltIn (V : List (List Rat)) (i : Nat) (r : List Rat) (j : Nat) : List Rat := flt V i ++ r.take j
theorem flt_zero (V : List (List Rat)) : flt V 0 = [] := by simp [flt]
theorem fltIn_zero (V : List (List Rat)) (i : Nat) (r : List Rat) : fltIn V i r 0 = flt V i := by simp [fltIn]
theorem flt_succ {V : List (List Rat)} {i : Nat} (hi : i < V.length) : fltIn V i V[i] V[i].length = flt V (i + 1) := by
  unfold flt fltIn flt
  rw [List.take_add_one, List.getElem?_eq_getElem hi, List.flatten_append, List.take_length]
  simp
theorem flt_all (V : List (List Rat)) : flt V V.length = V.flatten := by unfold flt; rw [List.take_length]
theorem fltIn_app {V : List (List Rat)} {i : Nat} {r : List Rat} {j : Nat} (hj : j < r.length) : fltIn V i r (j + 1) = fltIn V i r j ++ [r[j]] := by
  unfold fltIn
  rw [List.take_add_one, List.getElem?_eq_getElem hj, List.append_assoc]; rfl
theorem fltIn_succ {V : List (List Rat)} {i : Nat} {r : List Rat} {j : Nat} (hj : j < r.length) {e : List D} (he : e = qel (nq r[j])) : qes ((fltIn V i r j).map nq) ++ [e] = qes ((fltIn V i r (j + 1)).map nq) := by
  rw [fltIn_app hj, he]; simp [qes]
theorem fltIn_len {V : List (List Rat)} {i : Nat} {r : List Rat} {j : Nat} (hj : j < r.length) : (fltIn V i r (j + 1)).length = (fltIn V i r j).length + 1 := by
  rw [fltIn_app hj]; simp
theorem fltIn_le {V : List (List Rat)} {i : Nat} (hi : i < V.length) {j : Nat} (hj : j ≤ V[i].length) : (fltIn V i V[i] j).length ≤ V.flatten.length := by
  have e : V.flatten = (flt V i ++ V[i]) ++ (V.drop (i + 1)).flatten := by
    conv => lhs; rw [← List.take_append_drop i V, List.flatten_append, List.drop_eq_getElem_cons hi, List.flatten_cons]
    rw [List.append_assoc]; rfl
  rw [e]
  unfold fltIn
  simp
  omega
theorem valM_ql {m : MR} {K : Nat} (hm : Gm K m) : ∀ q ∈ (valM m).flatten, ql q ≤ K := fun q hq => by
  obtain ⟨r, hr, hq⟩ := List.mem_flatten.1 hq
  rw [valM_rows] at hr
  obtain ⟨r0, h1, rfl⟩ := List.mem_map.1 hr
  obtain ⟨z, h2, rfl⟩ := List.mem_map.1 hq
  have h := ql_ratv (ofR z) (ofR m.1) hm.ne
  have h3 := hm.k r0 h1 z h2
  have h4 := hm.kd
  omega
set_option maxRecDepth 100000 in
set_option maxHeartbeats 2000000 in
theorem heightm_p (m : MR) {K : Nat} (hm : Gm K m) (hK : K < 549755813888) (hn : (valM m).flatten.length < 549755813888) : PCall Tryz.prog 33 [.d (md m)] (.tup [.d (.v (.int .i64 (qhs (valM m).flatten : Int))), .d (.v (.int .i64 0))]) := by
  have hr := rows_p m hm.d hm.g hm.check
  have hh := height_n (valM m).flatten hn (fun q hq => by have := valM_ql hm q hq; omega)
  have hnr := hm.g.nr
  have hrl : ∀ (i : Nat) (hi : i < (valM m).length), (valM m)[i].length < 549755813888 := fun i hi => by
    have := fltIn_le (V := valM m) hi (Nat.le_refl _)
    rw [fltIn, List.length_append, List.take_length] at this
    omega
  refine pcall_of hmo Tryz.func33 rfl (by kernel_rfl) (by simp [Tryz.ntmps33]) ?_; simp -implicitDefEqProofs [go_sem, Tryz.ntmps33]; (repeat refine And.intro (by first | decide +kernel | omega | kernel_rfl) ?_); (try decide +kernel)
  refine .inl ⟨_, hr, ?_⟩; simp -implicitDefEqProofs [go_sem]; (repeat refine And.intro (by first | decide +kernel | omega | kernel_rfl) ?_); (try decide +kernel)
  refine .inr ⟨[], _, _, eachR_h _ _, by simp -implicitDefEqProofs [go_sem], ?_⟩
  simp -implicitDefEqProofs [go_sem]; (repeat refine And.intro (by first | decide +kernel | omega | kernel_rfl) ?_); (try decide +kernel)
  refine ⟨_, rfl, by decide +kernel, ?_⟩
  simp -implicitDefEqProofs [go_sem]; (repeat refine And.intro (by first | decide +kernel | omega | kernel_rfl) ?_); (try decide +kernel)
  have hvl := valM_len m
  generalize hV : valM m = V at *
  rw [← hvl] at hnr
  rw [← hvl]
  refine loop_rule [.arrB 48 0 72 4] (fun (i : Nat) => ⟨25, [(0, .yd), (7, .d (.sl (qrs V))), (8, intP .i64 (V.length : Int)), (9, intP .i64 (i : Int))],
    [(48, .box [.sr 72 (flt V i).length]), (72, .arr ⟨72, 4, (flt V i).length, false, qes ((flt V i).map nq)⟩)], 1000⟩)
    (fun i => i ≤ V.length) (fun i => V.length - i) 0 (Nat.zero_le _) (by simp) (by simp -implicitDefEqProofs [go_sem, flt_zero, qes]) (fun i hi => ?_)
  by_cases hil : i < V.length
  · obtain ⟨row, hrow⟩ : ∃ row, row = V[i] := ⟨_, rfl⟩
    have hrl1 := hrl i hil
    have hle := fun j hj => fltIn_le (V := V) hil (j := j) hj
    have hsc := flt_succ hil
    rw [← hrow] at hrl1 hle hsc
    simp -implicitDefEqProofs [go_sem, hil]; (repeat refine And.intro (by first | decide +kernel | omega | kernel_rfl) ?_); (try decide +kernel)
    rw [← hrow]
    refine loop_rule [] (fun (j : Nat) => ⟨25, [(0, .yd), (7, .d (.sl (qrs V))), (8, intP .i64 (V.length : Int)), (9, intP .i64 (i : Int)), (13, .d (.sl (qes (row.map nq)))), (14, intP .i64 (row.length : Int)), (15, intP .i64 (j : Int))],
      [(48, .box [.sr 72 (fltIn V i row j).length]), (72, .arr ⟨72, 4, (fltIn V i row j).length, false, qes ((fltIn V i row j).map nq)⟩)], 2000⟩)
      (fun j => j ≤ row.length) (fun j => row.length - j) 0 (Nat.zero_le _) (by simp) (by simp -implicitDefEqProofs [go_sem, fltIn_zero]) (fun j hj => ?_)
    by_cases hjl : j < row.length
    · have h2 := fltIn_len (V := V) (i := i) hjl
      have h3 := hle (j + 1) (by omega)
      simp -implicitDefEqProofs [go_sem, hjl]; (repeat refine And.intro (by first | decide +kernel | omega | kernel_rfl) ?_); (try decide +kernel)
      refine ⟨j + 1, ?_⟩; (repeat' apply And.intro) <;> first | omega | (exact h2.symm) | (exact fltIn_succ hjl rfl) | assumption | rfl
    · obtain rfl : j = row.length := by omega
      rw [hsc]
      simp -implicitDefEqProofs [go_sem]; (repeat refine And.intro (by first | decide +kernel | omega | kernel_rfl) ?_); (try decide +kernel)
      refine ⟨i + 1, ?_⟩; (repeat' apply And.intro) <;> first | omega | assumption | rfl
  · obtain rfl : i = V.length := by omega
    rw [← flt_all] at hh ⊢
    simp -implicitDefEqProofs [go_sem]; (repeat refine And.intro (by first | decide +kernel | omega | kernel_rfl) ?_); (try decide +kernel)
    refine .inl ⟨_, hh, ?_⟩; simp -implicitDefEqProofs [go_sem]; (repeat refine And.intro (by first | decide +kernel | omega | kernel_rfl) ?_); (try decide +kernel)
end Go.Mt
/-
  A part of the proof.
-/
set_option linter.unusedSimpArgs false
set_option linter.unusedVariables false
namespace Go.Mt
open Go Go.Pm Go.Proofs
theorem nm_len (V : List (List Rat)) : (nm V).2.length = V.length := by unfold nm nrmZ; simp
theorem nm_cols (V : List (List Rat)) : colsOf (nm V).2 = colsOf V := by unfold nm nrmZ; cases V <;> simp [colsOf]
theorem colsOf_get {α : Type} {l : List (List α)} (h : 0 < l.length) : (l[0]'h).length = colsOf l := by
  cases l with
  | nil => simp at h
  | cons x l => rfl
theorem valM_cols (m : MR) : colsOf (valM m) = colsOf m.2 := by
  rw [valM_rows]; cases m.2 <;> simp [colsOf, valR]
end Go.Mt
/-
  A part of the proof.
-/
set_option linter.unusedSimpArgs false
set_option linter.unusedVariables false
namespace Go.Mt
open Go Go.Pm Go.Proofs
/-- the faults of a matrix that is to be square and not too great -/
def fitE (m : MR) : Int := if checkE m ≠ 0 then checkE m else if m.2.length = 0 ∨ m.2.length ≠ colsOf m.2 then 3 else if 24 < m.2.length ∨ 4096 < qhs (valM m).flatten then 4 else 0
theorem gm_nm {m : MR} {K : Nat} (hm : Gm K m) (hK : K < 1099511627776) : Gm (max K 1) (nm (valM m)) := nm_bound hm.ne hm.ev hm.g hK hm.kd hm.k
set_option maxRecDepth 100000 in
set_option maxHeartbeats 2000000 in
theorem fitMat_x (m : MR) {K : Nat} (hd : Rz m.1) (hg : Grw m.2) (hK : checkE m = 0 → Gm K m) (hK2 : K < 549755813887) (hn : (valM m).flatten.length < 549755813888) :
    PCall Tryz.prog 150 [.d (md m)] (.tup [.d (if fitE m = 0 then md (nm (valM m)) else mE), .d (.v (.int .i64 (fitE m)))]) := by
  by_cases hc : checkE m = 0
  · have hm := hK hc
    have hgm := gm_nm hm (by omega)
    have hh := heightm_p (nm (valM m)) hgm (by omega) (by rw [valM_nm]; exact hn)
    rw [valM_nm] at hh
    have hN := normm_p m hd hg hc
    have hl := nm_len (valM m)
    have hcl := nm_cols (valM m)
    rw [valM_len] at hl
    rw [valM_cols] at hcl
    have hg0 : ∀ h : 0 < (nm (valM m)).2.length, ((nm (valM m)).2[0]'h).length = colsOf m.2 := fun h => by rw [colsOf_get h, hcl]
    have hc' : ¬ (checkE m ≠ 0) := fun h => h hc
    by_cases h0 : m.2.length = 0
    · have e : fitE m = 3 := by unfold fitE; rw [if_neg hc', if_pos (.inl h0)]
      rw [e, if_neg (by decide)]
      refine pcall_of hmo Tryz.func150 rfl (by kernel_rfl) (by simp [Tryz.ntmps150]) ?_; simp -implicitDefEqProofs [go_sem, Tryz.ntmps150]; (repeat refine And.intro (by first | decide +kernel | omega | kernel_rfl) ?_); (try decide +kernel)
      refine .inl ⟨_, hN, ?_⟩; simp -implicitDefEqProofs [go_sem, hl, h0]; (repeat refine And.intro (by first | decide +kernel | omega | kernel_rfl) ?_); (try decide +kernel)
    · have h0' : 0 < m.2.length := by omega
      have h0z : ¬ ((m.2.length : Nat) : Int) = 0 := by omega
      by_cases h1 : m.2.length = colsOf m.2
      · have h1' : ¬ (m.2.length = 0 ∨ m.2.length ≠ colsOf m.2) := by omega
        by_cases h2 : 24 < m.2.length
        · have e : fitE m = 4 := by unfold fitE; rw [if_neg hc', if_neg h1', if_pos (.inl h2)]
          rw [e, if_neg (by decide)]
          have h2z : (24 : Int) < ((m.2.length : Nat) : Int) := by omega
          have h2c : (24 : Int) < ((colsOf m.2 : Nat) : Int) := by omega
          have h2d : 24 < colsOf m.2 := by omega
          have h0d : ¬ colsOf m.2 = 0 := by omega
          have h0e : 0 < colsOf m.2 := by omega
          rw [h1] at hl
          refine pcall_of hmo Tryz.func150 rfl (by kernel_rfl) (by simp [Tryz.ntmps150]) ?_; simp -implicitDefEqProofs [go_sem, Tryz.ntmps150]; (repeat refine And.intro (by first | decide +kernel | omega | kernel_rfl) ?_); (try decide +kernel)
          refine .inl ⟨_, hN, ?_⟩; simp -implicitDefEqProofs [go_sem, hl, h0d, h0e, hg0]; (repeat refine And.intro (by first | decide +kernel | omega | kernel_rfl) ?_); (try decide +kernel)
          refine .inl ⟨_, hh, ?_⟩; simp -implicitDefEqProofs [go_sem, hl, h2d, h2c]; (repeat refine And.intro (by first | decide +kernel | omega | kernel_rfl) ?_); (try decide +kernel)
        · have h2z : ¬ (24 : Int) < ((m.2.length : Nat) : Int) := by omega
          have h2c : ¬ (24 : Int) < ((colsOf m.2 : Nat) : Int) := by omega
          have h2d : ¬ 24 < colsOf m.2 := by omega
          have h0d : ¬ colsOf m.2 = 0 := by omega
          have h0e : 0 < colsOf m.2 := by omega
          rw [h1] at hl
          by_cases h3 : 4096 < qhs (valM m).flatten
          · have e : fitE m = 4 := by unfold fitE; rw [if_neg hc', if_neg h1', if_pos (.inr h3)]
            have h3z : (4096 : Int) < ((qhs (valM m).flatten : Nat) : Int) := by omega
            rw [e, if_neg (by decide)]
            generalize qhs (valM m).flatten = H at *
            refine pcall_of hmo Tryz.func150 rfl (by kernel_rfl) (by simp [Tryz.ntmps150]) ?_; simp -implicitDefEqProofs [go_sem, Tryz.ntmps150]; (repeat refine And.intro (by first | decide +kernel | omega | kernel_rfl) ?_); (try decide +kernel)
            refine .inl ⟨_, hN, ?_⟩; simp -implicitDefEqProofs [go_sem, hl, h0d, h0e, hg0]; (repeat refine And.intro (by first | decide +kernel | omega | kernel_rfl) ?_); (try decide +kernel)
            refine .inl ⟨_, hh, ?_⟩; simp -implicitDefEqProofs [go_sem, hl, h2d, h2c, h3, h3z]; (repeat refine And.intro (by first | decide +kernel | omega | kernel_rfl) ?_); (try decide +kernel)
          · have e : fitE m = 0 := by unfold fitE; rw [if_neg hc', if_neg h1', if_neg (by omega)]
            have h3z : ¬ (4096 : Int) < ((qhs (valM m).flatten : Nat) : Int) := by omega
            rw [e, if_pos rfl]
            generalize qhs (valM m).flatten = H at *
            refine pcall_of hmo Tryz.func150 rfl (by kernel_rfl) (by simp [Tryz.ntmps150]) ?_; simp -implicitDefEqProofs [go_sem, Tryz.ntmps150]; (repeat refine And.intro (by first | decide +kernel | omega | kernel_rfl) ?_); (try decide +kernel)
            refine .inl ⟨_, hN, ?_⟩; simp -implicitDefEqProofs [go_sem, hl, h0d, h0e, hg0]; (repeat refine And.intro (by first | decide +kernel | omega | kernel_rfl) ?_); (try decide +kernel)
            refine .inl ⟨_, hh, ?_⟩; simp -implicitDefEqProofs [go_sem, hl, h2d, h2c, h3, h3z]; (repeat refine And.intro (by first | decide +kernel | omega | kernel_rfl) ?_); (try decide +kernel)
      · have e : fitE m = 3 := by unfold fitE; rw [if_neg hc', if_pos (.inr h1)]
        have h1z : ¬ ((m.2.length : Nat) : Int) = ((colsOf m.2 : Nat) : Int) := by omega
        rw [e, if_neg (by decide)]
        refine pcall_of hmo Tryz.func150 rfl (by kernel_rfl) (by simp [Tryz.ntmps150]) ?_; simp -implicitDefEqProofs [go_sem, Tryz.ntmps150]; (repeat refine And.intro (by first | decide +kernel | omega | kernel_rfl) ?_); (try decide +kernel)
        refine .inl ⟨_, hN, ?_⟩; simp -implicitDefEqProofs [go_sem, hl, h0, h0', h0z, hg0, h1, h1z]; (repeat refine And.intro (by first | decide +kernel | omega | kernel_rfl) ?_); (try decide +kernel)
  · have e : fitE m = checkE m := by unfold fitE; rw [if_pos hc]
    rw [e, if_neg hc]
    refine pcall_of hmo Tryz.func150 rfl (by kernel_rfl) (by simp [Tryz.ntmps150]) ?_; simp -implicitDefEqProofs [go_sem, Tryz.ntmps150]; (repeat refine And.intro (by first | decide +kernel | omega | kernel_rfl) ?_); (try decide +kernel)
    refine .inl ⟨_, normm_e m hd hg hc, ?_⟩; simp -implicitDefEqProofs [go_sem, hc]; (repeat refine And.intro (by first | decide +kernel | omega | kernel_rfl) ?_); (try decide +kernel)
end Go.Mt
/-
  A part of the proof.
-/
set_option linter.unusedSimpArgs false
set_option linter.unusedVariables false
namespace Go.Mt
open Go Go.Pm Go.Proofs
theorem colsOf_tab (f : Nat → Nat → Rat) {r c : Nat} (hr : 0 < r) : colsOf (tabQ f r c) = c := by
  unfold tabQ
  obtain ⟨s, rfl⟩ : ∃ s, r = s + 1 := ⟨r - 1, by omega⟩
  rw [List.range_succ_eq_map]
  simp [colsOf]
theorem fit_zero {m : MR} (h : fitE m = 0) : checkE m = 0 ∧ 0 < m.2.length ∧ m.2.length = colsOf m.2 ∧ m.2.length ≤ 24 ∧ qhs (valM m).flatten ≤ 4096 := by
  unfold fitE at h
  split at h
  · rename_i h1; exact absurd h h1
  · rename_i h1
    split at h
    · simp at h
    · rename_i h2
      split at h
      · simp at h
      · rename_i h3
        refine ⟨by omega, by omega, by omega, by omega, by omega⟩
/-- a b - b a -/
def bracketQ (A B : List (List Rat)) (n : Nat) : List (List Rat) := joinQ (· - ·) (mulQ A B n n n) (mulQ B A n n n) n n
theorem mulm_n (A B : List (List Rat)) {K n : Nat} (ha : Gm K (nm A)) (hb : Gm K (nm B)) (hK : 2 * K + 2 < 1099511627776) (h1 : A.length = n) (h2 : colsOf A = n) (h3 : B.length = n) (h4 : colsOf B = n) :
    PCall Tryz.prog 151 [.d (md (nm A)), .d (md (nm B))] (.tup [.d (md (nm (mulQ A B n n n))), .d (.v (.int .i64 0))]) ∧ Gm (2 * K + 2) (nm (mulQ A B n n n)) := by
  have h := mulm_p (nm A) (nm B) ha hb hK (by rw [nm_len, nm_cols]; omega)
  have g := mulm_bound (nm A) (nm B) ha hb hK (by rw [nm_len, nm_cols]; omega)
  rw [valM_nm, valM_nm, nm_len, nm_cols, nm_cols, h1, h2, h4] at h g
  exact ⟨h, g⟩
theorem qsub_n (A B : List (List Rat)) {K n : Nat} (ha : Gm K (nm A)) (hb : Gm K (nm B)) (hK : 2 * K + 2 < 1099511627776) (h1 : A.length = n) (h2 : colsOf A = n) (h3 : B.length = n) (h4 : colsOf B = n) :
    PCall Tryz.prog 152 [.d (md (nm A)), .d (md (nm B))] (.tup [.d (md (nm (joinQ (· - ·) A B n n))), .d (.v (.int .i64 0))]) := by
  have h := qsub_m (nm A) (nm B) ha hb hK (by rw [nm_len, nm_len]; omega) (by rw [nm_cols, nm_cols]; omega)
  rw [valM_nm, valM_nm, nm_len, nm_cols, h1, h2] at h
  exact h
def brE (a b : MR) : Int := if fitE a ≠ 0 then fitE a else if fitE b ≠ 0 then fitE b else if a.2.length ≠ b.2.length then 2 else 0
set_option maxRecDepth 100000 in
set_option maxHeartbeats 2000000 in
theorem bracket_x (a b : MR) {K : Nat} (hd : Rz a.1) (hg : Grw a.2) (hK : checkE a = 0 → Gm K a) (hn : (valM a).flatten.length < 549755813888) (hd2 : Rz b.1) (hg2 : Grw b.2) (hKb : checkE b = 0 → Gm K b) (hn2 : (valM b).flatten.length < 549755813888) (hK2 : K < 34359738368) :
    PCall Tryz.prog 66 [.d (md a), .d (md b)] (.tup [.d (if brE a b = 0 then md (nm (bracketQ (valM a) (valM b) a.2.length)) else mE), .d (.v (.int .i64 (brE a b)))]) := by
  have fa := fitMat_x a hd hg hK (by omega) hn
  have fb := fitMat_x b hd2 hg2 hKb (by omega) hn2
  have la := nm_len (valM a)
  have lb := nm_len (valM b)
  rw [valM_len] at la lb
  by_cases h1 : fitE a = 0
  · rw [if_pos h1, h1] at fa
    by_cases h2 : fitE b = 0
    · rw [if_pos h2, h2] at fb
      by_cases h3 : a.2.length = b.2.length
      · have e : brE a b = 0 := by unfold brE; rw [if_neg (by omega), if_neg (by omega), if_neg (by omega)]
        rw [e, if_pos rfl]
        obtain ⟨c1, c2, c3, c4, c5⟩ := fit_zero h1
        obtain ⟨d1, d2, d3, d4, d5⟩ := fit_zero h2
        have ga := gm_nm (hK c1) (by omega)
        have gb := gm_nm (hKb d1) (by omega)
        obtain ⟨m1, b1⟩ := mulm_n (valM a) (valM b) (n := a.2.length) ga gb (by omega) (valM_len a) (by rw [valM_cols]; omega) (by rw [valM_len]; omega) (by rw [valM_cols]; omega)
        obtain ⟨m2, b2⟩ := mulm_n (valM b) (valM a) (n := a.2.length) gb ga (by omega) (by rw [valM_len]; omega) (by rw [valM_cols]; omega) (valM_len a) (by rw [valM_cols]; omega)
        have s1 := qsub_n (mulQ (valM a) (valM b) a.2.length a.2.length a.2.length) (mulQ (valM b) (valM a) a.2.length a.2.length a.2.length) (n := a.2.length) b1 b2 (by omega) (length_tabQ _ _ _) (colsOf_tab _ (by omega)) (length_tabQ _ _ _) (colsOf_tab _ (by omega))
        have s1 : PCall Tryz.prog 152 _ (.tup [.d (md (nm (bracketQ (valM a) (valM b) a.2.length))), .d (.v (.int .i64 0))]) := s1
        refine pcall_of hmo Tryz.func66 rfl (by kernel_rfl) (by simp [Tryz.ntmps66]) ?_; simp -implicitDefEqProofs [go_sem, Tryz.ntmps66]; (repeat refine And.intro (by first | decide +kernel | omega | kernel_rfl) ?_); (try decide +kernel)
        rw [← h3] at lb
        refine .inl ⟨_, fa, ?_⟩; simp -implicitDefEqProofs [go_sem]; (repeat refine And.intro (by first | decide +kernel | omega | kernel_rfl) ?_); (try decide +kernel)
        refine .inl ⟨_, fb, ?_⟩; simp -implicitDefEqProofs [go_sem, la, lb]; (repeat refine And.intro (by first | decide +kernel | omega | kernel_rfl) ?_); (try decide +kernel)
        refine .inl ⟨_, m1, ?_⟩; simp -implicitDefEqProofs [go_sem]; (repeat refine And.intro (by first | decide +kernel | omega | kernel_rfl) ?_); (try decide +kernel)
        refine .inl ⟨_, m2, ?_⟩; simp -implicitDefEqProofs [go_sem]; (repeat refine And.intro (by first | decide +kernel | omega | kernel_rfl) ?_); (try decide +kernel)
        refine .inl ⟨_, s1, ?_⟩; simp -implicitDefEqProofs [go_sem]; (repeat refine And.intro (by first | decide +kernel | omega | kernel_rfl) ?_); (try decide +kernel)
      · have e : brE a b = 2 := by unfold brE; rw [if_neg (by omega), if_neg (by omega), if_pos h3]
        have h3z : ¬ ((a.2.length : Nat) : Int) = ((b.2.length : Nat) : Int) := by omega
        rw [e, if_neg (by decide)]
        refine pcall_of hmo Tryz.func66 rfl (by kernel_rfl) (by simp [Tryz.ntmps66]) ?_; simp -implicitDefEqProofs [go_sem, Tryz.ntmps66]; (repeat refine And.intro (by first | decide +kernel | omega | kernel_rfl) ?_); (try decide +kernel)
        refine .inl ⟨_, fa, ?_⟩; simp -implicitDefEqProofs [go_sem]; (repeat refine And.intro (by first | decide +kernel | omega | kernel_rfl) ?_); (try decide +kernel)
        refine .inl ⟨_, fb, ?_⟩; simp -implicitDefEqProofs [go_sem, la, lb, h3, h3z]; (repeat refine And.intro (by first | decide +kernel | omega | kernel_rfl) ?_); (try decide +kernel)
    · have e : brE a b = fitE b := by unfold brE; rw [if_neg (by omega), if_pos h2]
      rw [if_neg h2] at fb
      rw [e, if_neg h2]
      refine pcall_of hmo Tryz.func66 rfl (by kernel_rfl) (by simp [Tryz.ntmps66]) ?_; simp -implicitDefEqProofs [go_sem, Tryz.ntmps66]; (repeat refine And.intro (by first | decide +kernel | omega | kernel_rfl) ?_); (try decide +kernel)
      refine .inl ⟨_, fa, ?_⟩; simp -implicitDefEqProofs [go_sem]; (repeat refine And.intro (by first | decide +kernel | omega | kernel_rfl) ?_); (try decide +kernel)
      refine .inl ⟨_, fb, ?_⟩; simp -implicitDefEqProofs [go_sem, h2]; (repeat refine And.intro (by first | decide +kernel | omega | kernel_rfl) ?_); (try decide +kernel)
  · have e : brE a b = fitE a := by unfold brE; rw [if_pos h1]
    rw [if_neg h1] at fa
    rw [e, if_neg h1]
    refine pcall_of hmo Tryz.func66 rfl (by kernel_rfl) (by simp [Tryz.ntmps66]) ?_; simp -implicitDefEqProofs [go_sem, Tryz.ntmps66]; (repeat refine And.intro (by first | decide +kernel | omega | kernel_rfl) ?_); (try decide +kernel)
    refine .inl ⟨_, fa, ?_⟩; simp -implicitDefEqProofs [go_sem, h1]; (repeat refine And.intro (by first | decide +kernel | omega | kernel_rfl) ?_); (try decide +kernel)
end Go.Mt
