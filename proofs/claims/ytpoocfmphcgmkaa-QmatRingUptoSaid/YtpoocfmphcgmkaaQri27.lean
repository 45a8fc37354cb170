/-
  A part of the proof.
-/
import Derived.Test.YtpoocfmphcgmkaaQri24
import Derived.Test.YtpoocfmphcgmkaaQri2
set_option linter.unusedVariables false
set_option linter.unusedSimpArgs false
set_option linter.unusedSimpArgs false
set_option linter.unusedVariables false
namespace Go.Mt
open Go Go.Pm Go.Proofs
/-- a matrix of fractions in normal form; what a matrix says -/
def nm (qss : List (List Rat)) : MR := (nrm (nrmD qss : Int), (nrmZ qss).map fun r => r.map nrm)
def valM (m : MR) : List (List Rat) := fracs (ofR m.1) (zz m.2)
theorem zz_even {rows : List (List ZR)} (h : evenB rows = true) : ∀ zs ∈ zz rows, zs.length = colsOf (zz rows) := by
  intro zs hz
  obtain ⟨r, hr, rfl⟩ := List.mem_map.1 hz
  rw [zz_cols, List.length_map]
  exact even_row h hr
theorem mkM_nm {D : Int} (h0 : D ≠ 0) {rows : List (List ZR)} (h : evenB rows = true) : mkM D rows = nm (fracs D (zz rows)) := by
  obtain ⟨h1, h2⟩ := made_nrm D h0 (zz rows) (zz_even h)
  unfold nm
  rw [← h1, ← h2]
  unfold mkM mkD madeDen madeRows qrows qrow
  rw [zz_cols, ents_zz]
  congr 1
  unfold zz
  simp only [List.map_map, Function.comp_def]
theorem made_q (d : ZR) (rows : List (List ZR)) (hd : Rz d) (h0 : ofR d ≠ 0) (h : Grw rows) (hev : evenB rows = true) :
    PCall Try.prog 23 [.d (zd d), .d (.sl (rws rows))] (.one (.d (md (nm (fracs (ofR d) (zz rows)))))) := by
  rw [← mkM_nm h0 hev]; exact made_p d rows hd h0 h
theorem zz_nrm (zss : List (List Int)) : zz (zss.map fun r => r.map nrm) = zss := by
  unfold zz
  rw [List.map_map]
  conv => rhs; rw [← List.map_id zss]
  refine List.map_congr_left fun r _ => ?_
  simp only [Function.comp, List.map_map, id]
  conv => rhs; rw [← List.map_id r]
  exact List.map_congr_left fun z _ => ofR_nrm z
theorem zz_nm (qss : List (List Rat)) : zz (nm qss).2 = nrmZ qss := zz_nrm _
theorem nm_den (qss : List (List Rat)) : ofR (nm qss).1 = (nrmD qss : Int) := ofR_nrm _
theorem nrmD_pos (qss : List (List Rat)) : 0 < nrmD qss := comDen_pos _
theorem valM_nm (qss : List (List Rat)) : valM (nm qss) = qss := by
  unfold valM
  rw [nm_den, zz_nm]
  unfold fracs nrmZ
  rw [List.map_map]
  conv => rhs; rw [← List.map_id qss]
  refine List.map_congr_left fun qs hq => ?_
  simp only [Function.comp, List.map_map, id]
  conv => rhs; rw [← List.map_id qs]
  refine List.map_congr_left fun q h => ?_
  exact ratv_comNum _ (nrmD_pos qss) q (den_dvd_comDen _ _ (List.mem_flatten.2 ⟨qs, hq, h⟩))
theorem evenB_map {α : Type} (f : α → ZR) (qss : List (List α)) (h : ∀ qs ∈ qss, qs.length = colsOf qss) : evenB (qss.map fun qs => qs.map f) = true := by
  unfold evenB
  rw [List.all_eq_true]
  intro r hr
  obtain ⟨qs, hq, rfl⟩ := List.mem_map.1 hr
  have hc : colsOf (qss.map fun qs => qs.map f) = colsOf qss := by cases qss <;> simp [colsOf]
  rw [hc, List.length_map]
  exact decide_eq_true (h qs hq)
/-- the normal form's numbers are no greater than those over any denominator -/
theorem nm_bound {D : Int} (h0 : D ≠ 0) {rows : List (List ZR)} (hev : evenB rows = true) (hg : Grw rows) {K : Nat} (hK : K < 1099511627776) (hD : zl D ≤ K) (hr : ∀ r ∈ rows, ∀ z ∈ r, zl (ofR z) ≤ K) : Gm (max K 1) (nm (fracs D (zz rows))) := by
  rw [← mkM_nm h0 hev]
  have hd1 : zl (mkD D rows) ≤ max K 1 := by
    unfold mkD; split
    · have : zl 1 = 1 := by decide
      omega
    · have := zl_div (madeG_dvd D (ents rows)).1
      omega
  have hmem : ∀ r ∈ (mkM D rows).2, ∀ z ∈ r, ∃ r0 ∈ rows, ∃ z0 ∈ r0, z = nrm (ofR z0 / madeG D (ents rows)) := by
    intro r hr z hz
    obtain ⟨r0, h1, rfl⟩ := List.mem_map.1 hr
    obtain ⟨z0, h2, rfl⟩ := List.mem_map.1 hz
    exact ⟨r0, h1, z0, h2, rfl⟩
  have hk : ∀ r ∈ (mkM D rows).2, ∀ z ∈ r, zl (ofR z) ≤ K ∧ Rz z := by
    intro r h1 z h2
    obtain ⟨r0, h3, z0, h4, rfl⟩ := hmem r h1 z h2
    have hd := zl_div ((madeG_dvd D (ents rows)).2 (ofR z0) (List.mem_map.2 ⟨z0, List.mem_flatten.2 ⟨r0, h3, h4⟩, rfl⟩))
    have := hr r0 h3 z0 h4
    refine ⟨by rw [ofR_nrm]; omega, rz (by omega)⟩
  have hne : ofR (mkM D rows).1 ≠ 0 := by
    show ofR (nrm (mkD D rows)) ≠ 0
    rw [ofR_nrm]
    unfold mkD; split
    · decide
    · intro e
      have hd := (madeG_dvd D (ents rows)).1
      have hn := madeG_ne h0 (ents rows)
      generalize madeG D (ents rows) = G at *
      obtain ⟨t, rfl⟩ := hd
      rw [Int.mul_ediv_cancel_left _ hn] at e
      rw [e, Int.mul_zero] at h0
      exact h0 rfl
  refine ⟨rz (by omega), hne, ⟨fun r h1 z h2 => (hk r h1 z h2).2, ?_, fun r h1 => ?_⟩, evenB_map _ rows (fun r hr => even_row hev hr), fun r h1 z h2 => by have := (hk r h1 z h2).1; omega, by show zl (ofR (nrm _)) ≤ _; rw [ofR_nrm]; exact hd1⟩
  · show (qrows _ _).length < _; rw [qrows_len]; exact hg.nr
  · obtain ⟨r0, h3, rfl⟩ := List.mem_map.1 h1
    rw [qrow_len]; exact hg.nc r0 h3
theorem grw_tab {f : Nat → Nat → Int} {r c K : Nat} (hK : K < 1099511627776) (hr : r < 549755813888) (hc : c < 549755813888) (hf : ∀ i k, i < r → k < c → zl (f i k) ≤ K) : Grw (ztab f r c) ∧ evenB (ztab f r c) = true ∧ ∀ x ∈ ztab f r c, ∀ z ∈ x, zl (ofR z) ≤ K := by
  have hm : ∀ x ∈ ztab f r c, ∀ z ∈ x, ∃ i k, i < r ∧ k < c ∧ z = nrm (f i k) := by
    intro x hx z hz
    obtain ⟨i, hi, rfl⟩ := List.mem_map.1 hx
    obtain ⟨k, hk, rfl⟩ := List.mem_map.1 hz
    exact ⟨i, k, List.mem_range.1 hi, List.mem_range.1 hk, rfl⟩
  have hl : ∀ x ∈ ztab f r c, x.length = c := by
    intro x hx
    obtain ⟨i, hi, rfl⟩ := List.mem_map.1 hx
    exact zrow_len f c i
  refine ⟨⟨fun x hx z hz => ?_, by rw [ztab_len]; exact hr, fun x hx => by rw [hl x hx]; exact hc⟩, ?_, fun x hx z hz => ?_⟩
  · obtain ⟨i, k, h1, h2, rfl⟩ := hm x hx z hz
    exact rz (by have := hf i k h1 h2; omega)
  · unfold evenB
    rw [List.all_eq_true]
    intro x hx
    rw [hl x hx]
    refine decide_eq_true ?_
    cases h : ztab f r c with
    | nil => rw [h] at hx; simp at hx
    | cons y l => exact (hl y (by rw [h]; exact List.mem_cons_self ..)).symm
  · obtain ⟨i, k, h1, h2, rfl⟩ := hm x hx z hz
    rw [ofR_nrm]; exact hf i k h1 h2
end Go.Mt
/-
  A part of the proof.
-/
set_option linter.unusedSimpArgs false
set_option linter.unusedVariables false
namespace Go.Mt
open Go Go.Pm Go.Proofs
/-- Mul: entries -/
def mulE (a b : MR) (n : Nat) : Nat → Nat → Int := mulZ (zz a.2) (zz b.2) n
theorem Gm.ent {K : Nat} {m : MR} (h : Gm K m) {i k : Nat} (hi : i < m.2.length) (hk : k < colsOf m.2) : ∃ (h2 : k < m.2[i].length), Rz m.2[i][k] ∧ entry (zz m.2) i k = ofR m.2[i][k] ∧ zl (ofR m.2[i][k]) ≤ K := by
  have hl := h.row hi
  have h2 : k < m.2[i].length := by omega
  exact ⟨h2, h.g.rz _ (List.getElem_mem hi) _ (List.getElem_mem h2), zz_ent m.2 hi h2, h.k _ (List.getElem_mem hi) _ (List.getElem_mem h2)⟩
set_option maxRecDepth 100000 in
set_option maxHeartbeats 1000000 in
theorem mul1_p (a b : MR) {K : Nat} (ha : Gm K a) (hb : Gm K b) (hK : 2 * K + 2 < 1099511627776) (n : Nat) (hn : colsOf a.2 = n) (hn2 : b.2.length = n) (i k : Nat) (hi : i < a.2.length) (hk : k < colsOf b.2) :
    PCall Try.prog 26 [.d (.v (.int .i64 (i : Int))), .d (.v (.int .i64 (k : Int))), .bw [.v (.int .i64 (n : Int))], .bw (mel a), .bw (mel b)] (.one (.d (zd (nrm (mulE a b n i k))))) := by
  have hnb := hb.g.nr
  have hbd : ∀ j, j ≤ n → zl (sumZ j fun j => entry (zz a.2) i j * entry (zz b.2) j k) ≤ 2 * K + 2 := fun j hj => zl_sumZ (fun j' hj' => by
    obtain ⟨_, _, e1, h1⟩ := ha.ent hi (k := j') (by omega)
    obtain ⟨_, _, e2, h2⟩ := hb.ent (i := j') (by omega) hk
    rw [e1, e2]
    have := zl_mul (ofR a.2[i][j']) (ofR b.2[j'][k])
    omega) (by omega)
  refine pcall_of hmo Try.func26 rfl (by kernel_rfl) (by simp [Try.ntmps26]) ?_; simp -implicitDefEqProofs [go_sem, Try.ntmps26]; (repeat refine And.intro (by first | decide +kernel | omega | kernel_rfl) ?_); (try decide +kernel)
  refine loop_rule [.nilB 4 1] (fun (j : Nat) => ⟨35, [(0, intP .i64 (i : Int)), (1, intP .i64 (k : Int)), (3, .bw (mel a)), (4, .bw (mel b)), (7, .pr 0 0 0 0), (8, .pr 4 0 0 0), (10, intP .i64 (n : Int)), (11, intP .i64 (j : Int))],
    [(4, .box [.d (.v (.bool (nrm (mulE a b j i k)).1)), .d (.sl (les (nrm (mulE a b j i k)).2))]), (0, .box [.d (.v (.bool false)), .nl])], 1000⟩)
    (fun j => j ≤ n) (fun j => n - j) 0 (Nat.zero_le _) (by simp) (by simp -implicitDefEqProofs [go_sem, mulE, mulZ, sumZ, nrm_zero, les_nil]) (fun j hj => ?_)
  by_cases hjl : j < n
  · obtain ⟨g1, r1, e1, k1⟩ := ha.ent hi (k := j) (by omega)
    obtain ⟨g2, r2, e2, k2⟩ := hb.ent (i := j) (by omega) hk
    have hm := mul_p a.2[i][j] b.2[j][k] r1 r2
    rw [← e1, ← e2] at hm
    have hml := zl_mul (entry (zz a.2) i j) (entry (zz b.2) j k)
    rw [e1, e2] at hml
    have had := add_n (mulE a b j i k) (entry (zz a.2) i j * entry (zz b.2) j k) (Nat.lt_of_le_of_lt (hbd j hj) hK) (by rw [e1, e2]; omega)
    have e3 : mulE a b j i k + entry (zz a.2) i j * entry (zz b.2) j k = mulE a b (j + 1) i k := rfl
    rw [e3] at had
    have hj2 : j < b.2.length := by omega
    simp -implicitDefEqProofs [go_sem, hjl, hi, hj2, g1, g2]; (repeat refine And.intro (by first | decide +kernel | omega | kernel_rfl) ?_); (try decide +kernel)
    refine .inl ⟨_, hm, ?_⟩; simp -implicitDefEqProofs [go_sem]; (repeat refine And.intro (by first | decide +kernel | omega | kernel_rfl) ?_); (try decide +kernel)
    refine .inl ⟨_, had, ?_⟩; simp -implicitDefEqProofs [go_sem]; (repeat refine And.intro (by first | decide +kernel | omega | kernel_rfl) ?_); (try decide +kernel)
    refine ⟨j + 1, ?_⟩; (repeat' apply And.intro) <;> first | omega | assumption | rfl
  · obtain rfl : j = n := by omega
    simp -implicitDefEqProofs [go_sem]; (repeat refine And.intro (by first | decide +kernel | omega | kernel_rfl) ?_); (try decide +kernel)
end Go.Mt
/-
  A part of the proof.
-/
set_option linter.unusedSimpArgs false
set_option linter.unusedVariables false
namespace Go.Mt
open Go Go.Pm Go.Proofs
theorem checks2_p (a b : MR) {K L : Nat} (ha : Gm K a) (hb : Gm L b) : PCall Try.prog 21 [.d (.sl [mel a, mel b])] (.one (.d (.v (.int .i64 0)))) := by
  have h := checks_p [a, b] (by simp; exact ⟨⟨ha.d, ha.g⟩, hb.d, hb.g⟩) (by simp)
  have e : checksE [a, b] = 0 := checksE_zero (by simp [ha.check, hb.check])
  rw [e] at h
  exact h
set_option maxRecDepth 100000 in
set_option maxHeartbeats 1000000 in
theorem mulm_p (a b : MR) {K : Nat} (ha : Gm K a) (hb : Gm K b) (hK : 2 * K + 2 < 1099511627776) (hn : b.2.length = colsOf a.2) :
    PCall Try.prog 7 [.d (md a), .d (md b)] (.tup [.d (md (nm (mulQ (valM a) (valM b) a.2.length (colsOf a.2) (colsOf b.2)))), .d (.v (.int .i64 0))]) := by
  have hd := mul_p a.1 b.1 ha.d hb.d
  have hdl := zl_mul (ofR a.1) (ofR b.1)
  have hka := ha.kd
  have hkb := hb.kd
  have hcb := colsOf_lt hb.g
  have hent : ∀ i k, i < a.2.length → k < colsOf b.2 → zl (mulE a b (colsOf a.2) i k) ≤ 2 * K + 2 := fun i k hi hk => zl_sumZ (fun j hj => by
    obtain ⟨_, _, e1, h1⟩ := ha.ent hi hj
    obtain ⟨_, _, e2, h2⟩ := hb.ent (i := j) (by omega) hk
    rw [e1, e2]
    have := zl_mul (ofR a.2[i][j]) (ofR b.2[j][k])
    omega) (by have := hb.g.nr; omega)
  have ht := table_p (mulE a b (colsOf a.2)) a.2.length (colsOf b.2) 26 [.bw [.v (.int .i64 (colsOf a.2 : Int))], .bw (mel a), .bw (mel b)] (caps_bw3 _ _ _) ha.g.nr hcb (fun i k hi hk => mul1_p a b ha hb hK _ rfl hn i k hi hk)
  obtain ⟨g1, g2, g3⟩ := grw_tab hK ha.g.nr hcb hent
  have hm := made_q (nrm (ofR a.1 * ofR b.1)) (ztab (mulE a b (colsOf a.2)) a.2.length (colsOf b.2)) (rz (by omega)) (by rw [ofR_nrm]; exact Int.mul_ne_zero ha.ne hb.ne) g1 g2
  have e : fracs (ofR a.1 * ofR b.1) (tableZ (mulE a b (colsOf a.2)) a.2.length (colsOf b.2)) = mulQ (valM a) (valM b) a.2.length (colsOf a.2) (colsOf b.2) := mulZ_eq (zz a.2) (zz b.2) (ofR a.1) (ofR b.1) ha.ne hb.ne _ _ _
  rw [ofR_nrm, zz_tab, e] at hm
  refine pcall_of hmo Try.func7 rfl (by kernel_rfl) (by simp [Try.ntmps7]) ?_; simp -implicitDefEqProofs [go_sem, Try.ntmps7]; (repeat refine And.intro (by first | decide +kernel | omega | kernel_rfl) ?_); (try decide +kernel)
  refine .inl ⟨_, checks2_p a b ha hb, ?_⟩; simp -implicitDefEqProofs [go_sem]; (repeat refine And.intro (by first | decide +kernel | omega | kernel_rfl) ?_); (try decide +kernel)
  refine .inl ⟨_, size_p a ha.g, ?_⟩; simp -implicitDefEqProofs [go_sem]; (repeat refine And.intro (by first | decide +kernel | omega | kernel_rfl) ?_); (try decide +kernel)
  refine .inl ⟨_, size_p b hb.g, ?_⟩; simp -implicitDefEqProofs [go_sem, hn]; (repeat refine And.intro (by first | decide +kernel | omega | kernel_rfl) ?_); (try decide +kernel)
  refine .inl ⟨_, hd, ?_⟩; simp -implicitDefEqProofs [go_sem]; (repeat refine And.intro (by first | decide +kernel | omega | kernel_rfl) ?_); (try decide +kernel)
  refine .inl ⟨_, ht, ?_⟩; simp -implicitDefEqProofs [go_sem]; (repeat refine And.intro (by first | decide +kernel | omega | kernel_rfl) ?_); (try decide +kernel)
  refine .inl ⟨_, hm, ?_⟩; simp -implicitDefEqProofs [go_sem]; (repeat refine And.intro (by first | decide +kernel | omega | kernel_rfl) ?_); (try decide +kernel)
def ies (l : List Int) : List (List D) := l.map fun x => [.v (.int .i64 x)]
@[go_sem] theorem ies_len (l : List Int) : (ies l).length = l.length := by simp [ies]
@[go_sem] theorem ies_ge {l : List Int} {i : Nat} (h : i < (ies l).length) : (ies l)[i] = [.v (.int .i64 (l[i]'(by rw [ies_len] at h; exact h)))] := by simp [ies]
end Go.Mt
/-
  A part of the proof.
-/
set_option linter.unusedSimpArgs false
set_option linter.unusedVariables false
namespace Go.Mt
open Go Go.Pm Go.Proofs
def idZ (i k : Nat) : Int := if i = k then 1 else 0
def identQ (n : Nat) : List (List Rat) := tabQ (fun i k => if i = k then 1 else 0) n n
def zeroQ (r c : Nat) : List (List Rat) := tabQ (fun _ _ => 0) r c
theorem ratv_1 (z : Int) : ratv z 1 = (z : Rat) := ratv_one z
theorem frac_id (n : Nat) : fracs 1 (tableZ idZ n n) = identQ n := by
  rw [fracs_table]
  refine tabQ_congr fun i k _ _ => ?_
  rw [ratv_1]; unfold idZ; split <;> rfl
theorem frac_zero (r c : Nat) : fracs 1 (tableZ (fun _ _ => 0) r c) = zeroQ r c := by
  rw [fracs_table]
  exact tabQ_congr fun i k _ _ => ratv_z 1
end Go.Mt
/-
  A part of the proof.
-/
set_option linter.unusedSimpArgs false
set_option linter.unusedVariables false
namespace Go.Mt
open Go Go.Pm Go.Proofs
def mbx (m : MR) : List PV := [.d (.v (.bool m.1.1)), .d (.sl (les m.1.2)), .d (.sl (rws m.2))]
def hsJ (g : FuncId) (a b : MR) : Heap := [(8, .box [.fn g []]), (0, .box (mbx a)), (4, .box (mbx b))]
attribute [go_sem] mbx hsJ
/-- an operation on two numbers -/
structure OpN (g : FuncId) (f : Int → Int → Int) : Prop where
  call : ∀ x y : Int, zl x < 1099511627776 → zl y < 1099511627776 → PCall Try.prog g [.d (zd (nrm x)), .d (zd (nrm y))] (.one (.d (zd (nrm (f x y)))))
  zl : ∀ x y : Int, zl (f x y) ≤ max (Go.Mt.zl x) (Go.Mt.zl y) + 1
def joinE (f : Int → Int → Int) (a b : MR) (i k : Nat) : Int := f (entry (zz a.2) i k * ofR b.1) (entry (zz b.2) i k * ofR a.1)
set_option maxRecDepth 100000 in
set_option maxHeartbeats 4000000 in
theorem joinC_h (a b : MR) {K : Nat} {g : FuncId} {f : Int → Int → Int} (hf : OpN g f) (ha : Gm K a) (hb : Gm K b) (hK : 2 * K + 2 < 1099511627776) (hn : b.2.length = a.2.length) (hc : colsOf b.2 = colsOf a.2) (i k : Nat) (hi : i < a.2.length) (hk : k < colsOf a.2) :
    HCall Try.prog 52 [.d (.v (.int .i64 (i : Int))), .d (.v (.int .i64 (k : Int))), .pr 8 0 0 0, .pr 0 0 0 0, .pr 4 0 0 0] (hsJ g a b) 8028 (.agg [.d (.v (.bool (nrm (joinE f a b i k)).1)), .d (.sl (les (nrm (joinE f a b i k)).2))]) (hsJ g a b) := by
  obtain ⟨g1, r1, e1, k1⟩ := ha.ent hi hk
  obtain ⟨g2, r2, e2, k2⟩ := hb.ent (i := i) (k := k) (by omega) (by omega)
  have hm1 := mul_p a.2[i][k] b.1 r1 hb.d
  have hm2 := mul_p b.2[i][k] a.1 r2 ha.d
  have hl1 := zl_mul (ofR a.2[i][k]) (ofR b.1)
  have hl2 := zl_mul (ofR b.2[i][k]) (ofR a.1)
  have := ha.kd
  have := hb.kd
  have hop := hf.call (ofR a.2[i][k] * ofR b.1) (ofR b.2[i][k] * ofR a.1) (by omega) (by omega)
  have hi2 : i < b.2.length := by omega
  unfold joinE
  rw [e1, e2]
  refine hcall_of (L := []) hmo Try.func52 rfl (by kernel_rfl) (by simp [Try.ntmps52]) (by simp -implicitDefEqProofs [go_sem]) (by simp -implicitDefEqProofs [go_sem]) ?_
  simp -implicitDefEqProofs [go_sem, Try.ntmps52, hi, hi2, g1, g2]
  refine .inl ⟨_, hm1, ?_⟩; simp -implicitDefEqProofs [go_sem, hi, hi2, g1, g2]; (repeat refine And.intro (by first | decide +kernel | omega | kernel_rfl) ?_); (try decide +kernel)
  refine .inl ⟨_, hm2, ?_⟩; simp -implicitDefEqProofs [go_sem, hi, hi2, g1, g2]; (repeat refine And.intro (by first | decide +kernel | omega | kernel_rfl) ?_); (try decide +kernel)
  refine .inl ⟨_, hop, ?_⟩; simp -implicitDefEqProofs [go_sem, hi, hi2, g1, g2]; (repeat refine And.intro (by first | decide +kernel | omega | kernel_rfl) ?_); (try decide +kernel)
set_option maxHeartbeats 1000000 in
theorem tableJ_h (a b : MR) {K : Nat} {g : FuncId} {f : Int → Int → Int} (hf : OpN g f) (ha : Gm K a) (hb : Gm K b) (hK : 2 * K + 2 < 1099511627776) (hn : b.2.length = a.2.length) (hc : colsOf b.2 = colsOf a.2) :
    HCall Try.prog 25 [.d (.v (.int .i64 (a.2.length : Int))), .d (.v (.int .i64 (colsOf a.2 : Int))), .fn 52 [.pr 8 0 0 0, .pr 0 0 0 0, .pr 4 0 0 0]] (hsJ g a b) 168 (.sr 168 a.2.length)
      (hsJ g a b ++ [(168, .arr ⟨46, 1, a.2.length, false, rws (ztab (joinE f a b) a.2.length (colsOf a.2))⟩)]) := by
  have hnr := ha.g.nr
  have hnc := colsOf_lt ha.g
  refine hcall_of (L := [184]) hmo Try.func25 rfl (by kernel_rfl) (by simp [Try.ntmps25]) (by simp -implicitDefEqProofs [go_sem]) (by simp -implicitDefEqProofs [go_sem]) ?_
  simp -implicitDefEqProofs [go_sem, Try.ntmps25]
  refine loop_rule [.arr 7 46 1] (fun (i : Nat) => ⟨35, [(1, intP .i64 (colsOf a.2 : Int)), (2, .fn 52 [.pr 8 0 0 0, .pr 0 0 0 0, .pr 4 0 0 0]), (7, .sr 184 i), (11, intP .i64 (a.2.length : Int)), (12, intP .i64 (i : Int))],
    (184, .arr ⟨46, 1, i, false, rws ((ztab (joinE f a b) a.2.length (colsOf a.2)).take i)⟩) :: hsJ g a b, 7000⟩)
    (fun i => i ≤ a.2.length) (fun i => a.2.length - i) 0 (Nat.zero_le _) (by simp) (by simp -implicitDefEqProofs [go_sem, rws]) (fun i hi => ?_)
  by_cases hil : i < a.2.length
  · simp -implicitDefEqProofs [go_sem, hil]; (repeat refine And.intro (by first | decide +kernel | omega | kernel_rfl) ?_); (try decide +kernel)
    refine loop_rule [] (fun (k : Nat) => ⟨35, [(1, intP .i64 (colsOf a.2 : Int)), (2, .fn 52 [.pr 8 0 0 0, .pr 0 0 0 0, .pr 4 0 0 0]), (7, .sr 184 i), (8, intP .i64 (i : Int)), (9, .sr 7016 k), (11, intP .i64 (a.2.length : Int)), (12, intP .i64 (i : Int)), (17, intP .i64 (colsOf a.2 : Int)), (18, intP .i64 (k : Int))],
      (7016, .arr ⟨25, 2, k, false, zes ((zrow (joinE f a b) (colsOf a.2) i).take k)⟩) :: (184, .arr ⟨46, 1, i, false, rws ((ztab (joinE f a b) a.2.length (colsOf a.2)).take i)⟩) :: hsJ g a b, 8000⟩)
      (fun k => k ≤ colsOf a.2) (fun k => colsOf a.2 - k) 0 (Nat.zero_le _) (by simp) (by simp -implicitDefEqProofs [go_sem, zes]) (fun k hk => ?_)
    by_cases hkl : k < colsOf a.2
    · simp -implicitDefEqProofs [go_sem, hkl]; (repeat refine And.intro (by first | decide +kernel | omega | kernel_rfl) ?_); (try decide +kernel)
      refine .inr ⟨hsJ g a b, _, _, joinC_h a b hf ha hb hK hn hc i k hil hkl, by simp -implicitDefEqProofs [go_sem], ?_⟩
      simp -implicitDefEqProofs [go_sem]; (repeat refine And.intro (by first | decide +kernel | omega | kernel_rfl) ?_); (try decide +kernel)
      refine ⟨k + 1, ?_⟩; (repeat' apply And.intro) <;> first | omega | (exact take_snoc zel (zrow (joinE f a b) (colsOf a.2) i) (by rw [zrow_len]; exact hkl) (by simp [zel, zrow])) | assumption | rfl
    · obtain rfl : k = colsOf a.2 := by omega
      rw [take_all (zrow_len (joinE f a b) (colsOf a.2) i)]
      simp -implicitDefEqProofs [go_sem]; (repeat refine And.intro (by first | decide +kernel | omega | kernel_rfl) ?_); (try decide +kernel)
      refine ⟨i + 1, ?_⟩; (repeat' apply And.intro) <;> first | omega | (exact take_snoc rel (ztab (joinE f a b) a.2.length (colsOf a.2)) (by rw [ztab_len]; exact hil) (by simp [rel, ztab])) | assumption | rfl
  · obtain rfl : i = a.2.length := by omega
    rw [take_all (ztab_len (joinE f a b) a.2.length (colsOf a.2))]
    simp -implicitDefEqProofs [go_sem]; (repeat refine And.intro (by first | decide +kernel | omega | kernel_rfl) ?_); (try decide +kernel)
set_option maxRecDepth 100000 in
set_option maxHeartbeats 2000000 in
theorem join_p (a b : MR) {K : Nat} {g : FuncId} {f : Int → Int → Int} (hf : OpN g f) (ha : Gm K a) (hb : Gm K b) (hK : 2 * K + 2 < 1099511627776) (hn : b.2.length = a.2.length) (hc : colsOf b.2 = colsOf a.2) :
    PCall Try.prog 28 [.d (md a), .d (md b), .fn g []] (.tup [.d (md (nm (fracs (ofR a.1 * ofR b.1) (tableZ (joinE f a b) a.2.length (colsOf a.2))))), .d (.v (.int .i64 0))]) := by
  have hd := mul_p a.1 b.1 ha.d hb.d
  have hdl := zl_mul (ofR a.1) (ofR b.1)
  have := ha.kd
  have := hb.kd
  have hcl := colsOf_lt ha.g
  have hent : ∀ i k, i < a.2.length → k < colsOf a.2 → zl (joinE f a b i k) ≤ 2 * K + 1 := fun i k hi hk => by
    obtain ⟨_, _, e1, k1⟩ := ha.ent hi hk
    obtain ⟨_, _, e2, k2⟩ := hb.ent (i := i) (k := k) (by omega) (by omega)
    unfold joinE
    rw [e1, e2]
    have h1 := zl_mul (ofR a.2[i][k]) (ofR b.1)
    have h2 := zl_mul (ofR b.2[i][k]) (ofR a.1)
    have := hf.zl (ofR a.2[i][k] * ofR b.1) (ofR b.2[i][k] * ofR a.1)
    omega
  obtain ⟨g1, g2, g3⟩ := grw_tab (K := 2 * K + 1) (by omega) ha.g.nr hcl hent
  have hm := made_q (nrm (ofR a.1 * ofR b.1)) _ (rz (by omega)) (by rw [ofR_nrm]; exact Int.mul_ne_zero ha.ne hb.ne) g1 g2
  rw [ofR_nrm, zz_tab] at hm
  refine pcall_of hmo Try.func28 rfl (by kernel_rfl) (by simp [Try.ntmps28]) ?_; simp -implicitDefEqProofs [go_sem, Try.ntmps28]; (repeat refine And.intro (by first | decide +kernel | omega | kernel_rfl) ?_); (try decide +kernel)
  refine .inl ⟨_, checks2_p a b ha hb, ?_⟩; simp -implicitDefEqProofs [go_sem]; (repeat refine And.intro (by first | decide +kernel | omega | kernel_rfl) ?_); (try decide +kernel)
  refine .inl ⟨_, size_p a ha.g, ?_⟩; simp -implicitDefEqProofs [go_sem]; (repeat refine And.intro (by first | decide +kernel | omega | kernel_rfl) ?_); (try decide +kernel)
  refine .inl ⟨_, size_p b hb.g, ?_⟩; simp -implicitDefEqProofs [go_sem, hn, hc]; (repeat refine And.intro (by first | decide +kernel | omega | kernel_rfl) ?_); (try decide +kernel)
  refine .inl ⟨_, hd, ?_⟩; simp -implicitDefEqProofs [go_sem]; (repeat refine And.intro (by first | decide +kernel | omega | kernel_rfl) ?_); (try decide +kernel)
  refine .inr ⟨hsJ g a b, _, _, tableJ_h a b hf ha hb hK hn hc, by simp -implicitDefEqProofs [go_sem], ?_⟩
  simp -implicitDefEqProofs [go_sem]; (repeat refine And.intro (by first | decide +kernel | omega | kernel_rfl) ?_); (try decide +kernel)
  refine .inl ⟨_, hm, ?_⟩; simp -implicitDefEqProofs [go_sem]; (repeat refine And.intro (by first | decide +kernel | omega | kernel_rfl) ?_); (try decide +kernel)
end Go.Mt
/-
  A part of the proof.
-/
set_option linter.unusedSimpArgs false
set_option linter.unusedVariables false
namespace Go.Mt
open Go Go.Pm Go.Proofs
theorem opAdd : OpN 27 (· + ·) := ⟨fun x y hx hy => add_n x y hx hy, fun x y => zl_add x y⟩
theorem qadd_m (a b : MR) {K : Nat} (ha : Gm K a) (hb : Gm K b) (hK : 2 * K + 2 < 1099511627776) (hn : b.2.length = a.2.length) (hc : colsOf b.2 = colsOf a.2) :
    PCall Try.prog 8 [.d (md a), .d (md b)] (.tup [.d (md (nm (joinQ (· + ·) (valM a) (valM b) a.2.length (colsOf a.2)))), .d (.v (.int .i64 0))]) := by
  have h := join_p a b opAdd ha hb hK hn hc
  have e : fracs (ofR a.1 * ofR b.1) (tableZ (joinE (· + ·) a b) a.2.length (colsOf a.2)) = joinQ (· + ·) (valM a) (valM b) a.2.length (colsOf a.2) := addZ_eq (zz a.2) (zz b.2) (ofR a.1) (ofR b.1) ha.ne hb.ne _ _
  rw [e] at h
  refine pcall_of hmo Try.func8 rfl (by kernel_rfl) (by simp [Try.ntmps8]) ?_; simp -implicitDefEqProofs [go_sem, Try.ntmps8]; (repeat refine And.intro (by first | decide +kernel | omega | kernel_rfl) ?_); (try decide +kernel)
  refine .inl ⟨_, h, ?_⟩; simp -implicitDefEqProofs [go_sem]; (repeat refine And.intro (by first | decide +kernel | omega | kernel_rfl) ?_); (try decide +kernel)
/-- rows of fractions in normal form -/
def qrw (qs : List Rat) : List D := [.sl (qes (qs.map nq))]
def qrs (qss : List (List Rat)) : List (List D) := qss.map qrw
attribute [go_sem] qrw
@[go_sem] theorem qrs_len (l : List (List Rat)) : (qrs l).length = l.length := by simp [qrs]
@[go_sem] theorem qrs_ge {l : List (List Rat)} {i : Nat} (h : i < (qrs l).length) : (qrs l)[i] = qrw (l[i]'(by rw [qrs_len] at h; exact h)) := by simp [qrs]
def valR (d : Int) (r : List ZR) : List Rat := r.map fun z => ratv (ofR z) d
theorem valM_rows (m : MR) : valM m = m.2.map (valR (ofR m.1)) := by
  unfold valM fracs zz valR
  rw [List.map_map]
  refine List.map_congr_left fun r _ => ?_
  simp [Function.comp]
@[go_sem] theorem valR_len (d : Int) (r : List ZR) : (valR d r).length = r.length := by simp [valR]
@[go_sem] theorem valM_len (m : MR) : (valM m).length = m.2.length := by rw [valM_rows, List.length_map]
def flt (V : List (List Rat)) (i : Nat) : List Rat := (V.take i).flatten
def fltIn (V : List (List Rat)) (i : Nat) (r : List Rat) (j : Nat) : List Rat := flt V i ++ r.take j
theorem flt_succ {V : List (List Rat)} {i : Nat} (hi : i < V.length) : fltIn V i V[i] V[i].length = flt V (i + 1) := by
  unfold flt fltIn flt
  rw [List.take_add_one, List.getElem?_eq_getElem hi, List.flatten_append, List.take_length]
  simp
end Go.Mt
/-
  A part of the proof.
-/
set_option linter.unusedSimpArgs false
set_option linter.unusedVariables false
namespace Go.Mt
open Go Go.Pm Go.Proofs
theorem nm_len (V : List (List Rat)) : (nm V).2.length = V.length := by unfold nm nrmZ; simp
theorem nm_cols (V : List (List Rat)) : colsOf (nm V).2 = colsOf V := by unfold nm nrmZ; cases V <;> simp [colsOf]
theorem colsOf_get {α : Type} {l : List (List α)} (h : 0 < l.length) : (l[0]'h).length = colsOf l := by
  cases l with
  | nil => simp at h
  | cons x l => rfl
end Go.Mt
/-
  A part of the proof.
-/
set_option linter.unusedSimpArgs false
set_option linter.unusedVariables false
namespace Go.Mt
open Go Go.Pm Go.Proofs
theorem colsOf_tab (f : Nat → Nat → Rat) {r c : Nat} (hr : 0 < r) : colsOf (tabQ f r c) = c := by
  unfold tabQ
  obtain ⟨s, rfl⟩ : ∃ s, r = s + 1 := ⟨r - 1, by omega⟩
  rw [List.range_succ_eq_map]
  simp [colsOf]
end Go.Mt
