/-
  A part of the proof.
-/
import Derived.Test.YtpoocfmphcgmkaaQri34
import Derived.Test.YtpoocfmphcgmkaaQri33
set_option linter.unusedVariables false
set_option linter.unusedSimpArgs false
set_option linter.unusedSimpArgs false
set_option linter.unusedVariables false
namespace Go.Mt
open Go Go.Pm Go.Proofs
/-- a power of a matrix -/
def pwQ (A : List (List Rat)) (n t : Nat) : List (List Rat) := tabQ (pwE A n t) n n
theorem pw_mul (A : List (List Rat)) (n t : Nat) : mulQ (pwQ A n t) A n n n = pwQ A n (t + 1) := tabQ_congr fun i k hi hk => by
  show _ = sumN n fun j => pwE A n t i j * entQ A j k
  exact sumN_congr fun j hj => by unfold pwQ; rw [entQ_tabQ _ _ _ _ _ hi hj]
theorem Sq.mono {n K L : Nat} {A : List (List Rat)} (h : Sq n K A) (hl : K ≤ L) : Sq n L A := ⟨h.n0, h.n1, h.l, h.c, h.g.mono hl⟩
end Go.Mt
/-
  A part of the proof.
-/
set_option linter.unusedSimpArgs false
set_option linter.unusedVariables false
namespace Go.Mt
open Go Go.Pm Go.Proofs
theorem qsquare_p (m : MR) (hd : Rz m.1) (hg : Grw m.2) (hc : checkE m = 0) (h0 : 0 < m.2.length) (hsq : m.2.length = colsOf m.2) : PCall Try.prog 31 [.d (md m)] (.one (.d (.v (.int .i64 0)))) := by
  have h := check_p m hd hg
  rw [hc] at h
  have hz : ((m.2.length : Nat) : Int) = ((colsOf m.2 : Nat) : Int) := by omega
  have hz0 : ¬ ((m.2.length : Nat) : Int) = 0 := by omega
  have hz1 : ¬ colsOf m.2 = 0 := by omega
  have hn0 : ¬ m.2 = [] := fun h => by rw [h] at h0; simp at h0
  refine pcall_of hmo Try.func31 rfl (by kernel_rfl) (by simp [Try.ntmps31]) ?_; simp -implicitDefEqProofs [go_sem, Try.ntmps31]; (repeat refine And.intro (by first | decide +kernel | omega | kernel_rfl) ?_); (try decide +kernel)
  refine .inl ⟨_, h, ?_⟩; simp -implicitDefEqProofs [go_sem]; (repeat refine And.intro (by first | decide +kernel | omega | kernel_rfl) ?_); (try decide +kernel)
  refine .inl ⟨_, size_p m hg, ?_⟩; simp -implicitDefEqProofs [go_sem, hz, hz0, hz1, hsq, hn0]; (repeat refine And.intro (by first | decide +kernel | omega | kernel_rfl) ?_); (try decide +kernel)
/-- the trace -/
def trQ (A : List (List Rat)) (n : Nat) : Rat := sumN n fun i => entQ A i i
def trZ (m : MR) (n : Nat) : Int := sumZ n fun i => entry (zz m.2) i i
theorem tr_val (m : MR) (n : Nat) (h : ofR m.1 ≠ 0) : ratv (trZ m n) (ofR m.1) = trQ (valM m) n := by
  unfold trZ trQ
  rw [ratv_sum h]
  exact sumN_congr fun j _ => by unfold valM; rw [entQ_fracs]
set_option maxRecDepth 100000 in
set_option maxHeartbeats 1000000 in
theorem trace_p (m : MR) {K : Nat} (hm : Gm K m) (h0 : 0 < m.2.length) (hsq : m.2.length = colsOf m.2) (hK : K + 3 < 1099511627776) :
    PCall Try.prog 10 [.d (md m)] (.tup [.d (qd (nq (trQ (valM m) m.2.length))), .d (.v (.int .i64 0))]) := by
  have he : checkE m = 0 := by unfold checkE; rw [if_neg hm.ne, if_pos hm.ev]
  have hq := qsquare_p m hm.d hm.g he h0 hsq
  have hnr := hm.g.nr
  have hbd : ∀ j, j ≤ m.2.length → zl (trZ m j) ≤ K + 2 := fun j hj => zl_sumZ (fun i hi => by
    obtain ⟨_, _, e1, h1⟩ := hm.ent (i := i) (k := i) (by omega) (by omega)
    rw [e1]; exact h1) (by omega)
  have hmk := make_p (nrm (trZ m m.2.length)) m.1 (rz (by have := hbd _ (Nat.le_refl _); omega)) hm.d hm.ne
  rw [ofR_nrm, tr_val m _ hm.ne] at hmk
  generalize trQ (valM m) m.2.length = T at *
  refine pcall_of hmo Try.func10 rfl (by kernel_rfl) (by simp [Try.ntmps10]) ?_; simp -implicitDefEqProofs [go_sem, Try.ntmps10]; (repeat refine And.intro (by first | decide +kernel | omega | kernel_rfl) ?_); (try decide +kernel)
  refine .inl ⟨_, hq, ?_⟩; simp -implicitDefEqProofs [go_sem]; (repeat refine And.intro (by first | decide +kernel | omega | kernel_rfl) ?_); (try decide +kernel)
  refine loop_rule [.nilB 32 1] (fun (i : Nat) => ⟨36, [(1, .pr 0 0 0 0), (2, .pr 4 0 0 0), (3, intP .i64 0), (5, .pr 32 0 0 0), (14, .d (.sl (rws m.2))), (15, intP .i64 (m.2.length : Int)), (16, intP .i64 (i : Int))],
      [(32, .box [.d (.v (.bool (nrm (trZ m i)).1)), .d (.sl (les (nrm (trZ m i)).2))]), (4, .box [.d (.v (.bool false)), .nl, .d (.v (.bool false)), .nl]), (0, .box (mbx m))], 1000⟩)
    (fun i => i ≤ m.2.length) (fun i => m.2.length - i) 0 (Nat.zero_le _) (by simp) (by simp -implicitDefEqProofs [go_sem, mbx, trZ, sumZ, nrm_zero, les_nil]) (fun i hi => ?_)
  by_cases hil : i < m.2.length
  · obtain ⟨g1, r1, e1, k1⟩ := hm.ent (i := i) (k := i) hil (by omega)
    have had := add_p (nrm (trZ m i)) m.2[i][i] (rz (by have := hbd i hi; omega)) r1
    rw [ofR_nrm, ← e1] at had
    have e3 : trZ m i + entry (zz m.2) i i = trZ m (i + 1) := rfl
    rw [e3] at had
    simp -implicitDefEqProofs [go_sem, mbx, hil, g1]; (repeat refine And.intro (by first | decide +kernel | omega | kernel_rfl) ?_); (try decide +kernel)
    refine .inl ⟨_, had, ?_⟩; simp -implicitDefEqProofs [go_sem, hil, g1]; (repeat refine And.intro (by first | decide +kernel | omega | kernel_rfl) ?_); (try decide +kernel)
    refine ⟨i + 1, ?_⟩; (repeat' apply And.intro) <;> first | omega | assumption | rfl
  · obtain rfl : i = m.2.length := by omega
    simp -implicitDefEqProofs [go_sem, mbx]; (repeat refine And.intro (by first | decide +kernel | omega | kernel_rfl) ?_); (try decide +kernel)
    refine .inl ⟨_, hmk, ?_⟩; simp -implicitDefEqProofs [go_sem]; (repeat refine And.intro (by first | decide +kernel | omega | kernel_rfl) ?_); (try decide +kernel)
end Go.Mt
/-
  A part of the proof.
-/
set_option linter.unusedSimpArgs false
set_option linter.unusedVariables false
namespace Go.Mt
/-! plain laws: products of tables, traces -/
theorem mul_ent (A B : List (List Rat)) {n i k : Nat} (hi : i < n) (hk : k < n) : entQ (mulQ A B n n n) i k = sumN n fun j => entQ A i j * entQ B j k := entQ_tabQ _ _ _ _ _ hi hk
theorem mul_assocQ (A B C : List (List Rat)) (n : Nat) : mulQ (mulQ A B n n n) C n n n = mulQ A (mulQ B C n n n) n n n := tabQ_congr fun i k hi hk => by
  have e1 : sumN n (fun j => entQ (mulQ A B n n n) i j * entQ C j k) = sumN n fun j => sumN n fun h => entQ A i h * entQ B h j * entQ C j k := sumN_congr fun j hj => by
    rw [mul_ent A B hi hj, sumN_scaler]
  have e2 : sumN n (fun h => entQ A i h * entQ (mulQ B C n n n) h k) = sumN n fun h => sumN n fun j => entQ A i h * entQ B h j * entQ C j k := sumN_congr fun h hh => by
    rw [mul_ent B C hh hk, ← sumN_scale]
    exact sumN_congr fun j _ => (Rat.mul_assoc _ _ _).symm
  rw [e1, e2, sumN_swap]
theorem mul_idr (A : List (List Rat)) {n : Nat} (hl : A.length = n) (hr : ∀ r ∈ A, r.length = n) : mulQ A (identQ n) n n n = A := by
  have e : mulQ A (identQ n) n n n = tabQ (entQ A) n n := tabQ_congr fun i k hi hk => by
    have : sumN n (fun j => entQ A i j * entQ (identQ n) j k) = sumN n fun j => entQ A i j * if j = k then 1 else 0 := sumN_congr fun j hj => by
      unfold identQ; rw [entQ_tabQ _ _ _ _ _ hj hk]
    rw [this]; exact sumN_one n k _ hk
  rw [e]
  have := tabQ_ent A n hr
  rw [hl] at this; exact this
theorem tr_comm (A B : List (List Rat)) (n : Nat) : trQ (mulQ A B n n n) n = trQ (mulQ B A n n n) n := by
  unfold trQ
  rw [sumN_congr fun i hi => mul_ent A B hi hi, sumN_congr fun i hi => mul_ent B A hi hi, sumN_swap]
  exact sumN_congr fun j _ => sumN_congr fun i _ => Rat.mul_comm _ _
end Go.Mt
/-
  A part of the proof.
-/
set_option linter.unusedSimpArgs false
set_option linter.unusedVariables false
namespace Go.Mt
open Go Go.Pm Go.Proofs
/-- a square matrix as it lies, with its bound -/
structure Bm (n K : Nat) (m : MR) : Prop where
  n0 : 0 < n
  n1 : n ≤ 1000
  g : Gm K m
  l : m.2.length = n
  c : colsOf m.2 = n
theorem Sq.bm {n K : Nat} {A : List (List Rat)} (h : Sq n K A) : Bm n K (nm A) := ⟨h.n0, h.n1, h.g, by rw [nm_len]; exact h.l, by rw [nm_cols]; exact h.c⟩
theorem Bm.mono {n K L : Nat} {m : MR} (h : Bm n K m) (hl : K ≤ L) : Bm n L m := ⟨h.n0, h.n1, h.g.mono hl, h.l, h.c⟩
theorem Bm.vl {n K : Nat} {m : MR} (h : Bm n K m) : (valM m).length = n := by rw [valM_len]; exact h.l
theorem Bm.mul {n K L : Nat} {a b : MR} (ha : Bm n K a) (hb : Bm n L b) (hK : 2 * K + 2 * L + 2 < 1099511627776) :
    PCall Try.prog 7 [.d (md a), .d (md b)] (.tup [.d (md (nm (mulQ (valM a) (valM b) n n n))), .d (.v (.int .i64 0))]) ∧ Bm n (K + L + 2) (nm (mulQ (valM a) (valM b) n n n)) := by
  have h := mulm_p a b (K := K + L) (ha.g.mono (by omega)) (hb.g.mono (by omega)) (by omega) (by rw [ha.c, hb.l])
  have g := mulm_gm2 a b ha.g hb.g (by omega) (by rw [ha.c, hb.l])
  rw [ha.l, ha.c, hb.c] at h g
  exact ⟨h, ha.n0, ha.n1, g, by rw [nm_len]; exact length_tabQ _ _ _, by rw [nm_cols]; exact colsOf_tab _ ha.n0⟩
theorem Bm.add {n K L : Nat} {a b : MR} (ha : Bm n K a) (hb : Bm n L b) (hK : 2 * K + 2 * L + 2 < 1099511627776) :
    PCall Try.prog 8 [.d (md a), .d (md b)] (.tup [.d (md (nm (joinQ (· + ·) (valM a) (valM b) n n))), .d (.v (.int .i64 0))]) ∧ Bm n (K + L + 1) (nm (joinQ (· + ·) (valM a) (valM b) n n)) := by
  have h := qadd_g a b ha.g hb.g hK (by rw [hb.l, ha.l]) (by rw [hb.c, ha.c])
  have g := addQ_gm2 (a := a) (b := b) ha.g hb.g (by omega) (by rw [hb.l, ha.l]) (by rw [hb.c, ha.c])
  rw [ha.l, ha.c] at h g
  rw [Nat.max_eq_left (by omega)] at g
  exact ⟨h, ha.n0, ha.n1, g, by rw [nm_len]; exact length_tabQ _ _ _, by rw [nm_cols]; exact colsOf_tab _ ha.n0⟩
/-- tables of integers as they lie -/
def rrow (f : Nat → Nat → ZR) (c i : Nat) : List ZR := (List.range c).map fun k => f i k
def rtab (f : Nat → Nat → ZR) (r c : Nat) : List (List ZR) := (List.range r).map (rrow f c)
@[go_sem] theorem rrow_len (f : Nat → Nat → ZR) (c i : Nat) : (rrow f c i).length = c := by simp [rrow]
@[go_sem] theorem rtab_len (f : Nat → Nat → ZR) (r c : Nat) : (rtab f r c).length = r := by simp [rtab]
set_option maxHeartbeats 1000000 in
theorem tabler_p (f : Nat → Nat → ZR) (r c : Nat) (g : FuncId) (caps : List PV) (hcap : Caps caps) (hr : r < 549755813888) (hc : c < 549755813888)
    (hf : ∀ i k, i < r → k < c → PCall Try.prog g (.d (.v (.int .i64 (i : Int))) :: .d (.v (.int .i64 (k : Int))) :: caps) (.one (.d (zd (f i k))))) :
    PCall Try.prog 25 [.d (.v (.int .i64 (r : Int))), .d (.v (.int .i64 (c : Int))), .fn g caps] (.one (.so 46 1 (rws (rtab f r c)))) := by
  have ha := hcap.a
  have hgg := hcap.g
  have hrr := hcap.r
  have hll := hcap.l
  refine pcall_of hmo Try.func25 rfl (by kernel_rfl) (by simp [Try.ntmps25]) ?_; simp -implicitDefEqProofs [go_sem, Try.ntmps25]; (repeat refine And.intro (by first | decide +kernel | omega | kernel_rfl) ?_); (try decide +kernel)
  refine loop_rule [.arr 7 46 1] (fun (i : Nat) => ⟨35, [(1, intP .i64 (c : Int)), (2, .fn g caps), (7, .sr 16 i), (11, intP .i64 (r : Int)), (12, intP .i64 (i : Int))],
    [(16, .arr ⟨46, 1, i, false, rws ((rtab f r c).take i)⟩)], 7000⟩)
    (fun i => i ≤ r) (fun i => r - i) 0 (Nat.zero_le _) (by simp) (by simp -implicitDefEqProofs [go_sem, rws, hll]) (fun i hi => ?_)
  by_cases hil : i < r
  · simp -implicitDefEqProofs [go_sem, hil]; (repeat refine And.intro (by first | decide +kernel | omega | kernel_rfl) ?_); (try decide +kernel)
    refine loop_rule [] (fun (k : Nat) => ⟨35, [(1, intP .i64 (c : Int)), (2, .fn g caps), (7, .sr 16 i), (8, intP .i64 (i : Int)), (9, .sr 7016 k), (11, intP .i64 (r : Int)), (12, intP .i64 (i : Int)), (17, intP .i64 (c : Int)), (18, intP .i64 (k : Int))],
      [(7016, .arr ⟨25, 2, k, false, zes ((rrow f c i).take k)⟩), (16, .arr ⟨46, 1, i, false, rws ((rtab f r c).take i)⟩)], 8000⟩)
      (fun k => k ≤ c) (fun k => c - k) 0 (Nat.zero_le _) (by simp) (by simp -implicitDefEqProofs [go_sem, zes, hll]) (fun k hk => ?_)
    by_cases hkl : k < c
    · have hc1 := hf i k hil hkl
      simp -implicitDefEqProofs [go_sem, hkl, ha, hgg, hrr]; (repeat refine And.intro (by first | decide +kernel | omega | kernel_rfl) ?_); (try decide +kernel)
      refine .inl ⟨_, hc1, ?_⟩; simp -implicitDefEqProofs [go_sem, hgg, hll]; (repeat refine And.intro (by first | decide +kernel | omega | kernel_rfl) ?_); (try decide +kernel)
      refine ⟨k + 1, ?_⟩; (repeat' apply And.intro) <;> first | omega | (exact take_snoc zel (rrow f c i) (by rw [rrow_len]; exact hkl) (by simp [zel, rrow])) | assumption | rfl
    · obtain rfl : k = c := by omega
      rw [take_all (rrow_len f k i)]
      simp -implicitDefEqProofs [go_sem, hll]; (repeat refine And.intro (by first | decide +kernel | omega | kernel_rfl) ?_); (try decide +kernel)
      refine ⟨i + 1, ?_⟩; (repeat' apply And.intro) <;> first | omega | (exact take_snoc rel (rtab f r k) (by rw [rtab_len]; exact hil) (by simp [rel, rtab])) | assumption | rfl
  · obtain rfl : i = r := by omega
    rw [take_all (rtab_len f i c)]
    simp -implicitDefEqProofs [go_sem]; (repeat refine And.intro (by first | decide +kernel | omega | kernel_rfl) ?_); (try decide +kernel)
theorem grw_rtab {f : Nat → Nat → ZR} {r c K : Nat} (hr : r < 549755813888) (hc : c < 549755813888) (hf : ∀ i k, i < r → k < c → Rz (f i k) ∧ zl (ofR (f i k)) ≤ K) : Grw (rtab f r c) ∧ evenB (rtab f r c) = true ∧ ∀ x ∈ rtab f r c, ∀ z ∈ x, zl (ofR z) ≤ K := by
  have hm : ∀ x ∈ rtab f r c, ∀ z ∈ x, ∃ i k, i < r ∧ k < c ∧ z = f i k := by
    intro x hx z hz
    obtain ⟨i, hi, rfl⟩ := List.mem_map.1 hx
    obtain ⟨k, hk, rfl⟩ := List.mem_map.1 hz
    exact ⟨i, k, List.mem_range.1 hi, List.mem_range.1 hk, rfl⟩
  have hw : ∀ x ∈ rtab f r c, x.length = c := by
    intro x hx
    obtain ⟨i, hi, rfl⟩ := List.mem_map.1 hx
    exact rrow_len f c i
  refine ⟨⟨fun x hx z hz => ?_, by rw [rtab_len]; omega, fun x hx => by rw [hw x hx]; omega⟩, ?_, fun x hx z hz => ?_⟩
  · obtain ⟨i, k, hi, hk, rfl⟩ := hm x hx z hz
    exact (hf i k hi hk).1
  · unfold evenB
    rw [List.all_eq_true]
    intro x hx
    refine decide_eq_true ?_
    rw [hw x hx]
    unfold colsOf
    cases hr0 : rtab f r c with
    | nil => rw [hr0] at hx; exact absurd hx (by simp)
    | cons y ys => exact (hw y (by rw [hr0]; exact List.mem_cons_self ..)).symm
  · obtain ⟨i, k, hi, hk, rfl⟩ := hm x hx z hz
    exact (hf i k hi hk).2
theorem zz_rtab (f : Nat → Nat → ZR) (r c : Nat) : zz (rtab f r c) = tableZ (fun i k => ofR (f i k)) r c := by
  unfold zz rtab tableZ rrow
  simp [Function.comp_def]
/-- an integer of a matrix, as it lies -/
def rget (m : MR) (i k : Nat) : ZR := ((m.2[i]?.getD [])[k]?).getD (false, [])
theorem rget_ent (m : MR) (i k : Nat) : ofR (rget m i k) = entry (zz m.2) i k := by
  unfold rget entry zz
  by_cases hi : i < m.2.length
  · by_cases hk : k < m.2[i].length
    · simp [hi, hk]
    · simp [hi, Nat.le_of_not_lt hk]
      rfl
  · simp [Nat.le_of_not_lt hi]
    rfl
theorem Gm.rget {K : Nat} {m : MR} (h : Gm K m) {i k : Nat} (hi : i < m.2.length) (hk : k < colsOf m.2) : ∃ (h2 : k < m.2[i].length), m.2[i][k] = Go.Mt.rget m i k ∧ Rz (Go.Mt.rget m i k) ∧ zl (ofR (Go.Mt.rget m i k)) ≤ K := by
  obtain ⟨g1, r1, e1, k1⟩ := h.ent hi hk
  have e : Go.Mt.rget m i k = m.2[i][k] := by unfold Go.Mt.rget; simp [hi, g1]
  rw [e]
  exact ⟨g1, rfl, r1, k1⟩
set_option maxHeartbeats 1000000 in
theorem transp1_p (m : MR) {K : Nat} (hm : Gm K m) (i k : Nat) (hi : i < colsOf m.2) (hk : k < m.2.length) :
    PCall Try.prog 30 [.d (.v (.int .i64 (i : Int))), .d (.v (.int .i64 (k : Int))), .bw (mel m)] (.one (.d (zd (rget m k i)))) := by
  obtain ⟨g1, e, r1, k1⟩ := hm.rget hk hi
  rw [← e]
  refine pcall_of hmo Try.func30 rfl (by kernel_rfl) (by simp [Try.ntmps30]) ?_; simp -implicitDefEqProofs [go_sem, Try.ntmps30]; (repeat refine And.intro (by first | decide +kernel | omega | kernel_rfl) ?_); (try decide +kernel)
  simp -implicitDefEqProofs [go_sem, hk, g1]; (repeat refine And.intro (by first | decide +kernel | omega | kernel_rfl) ?_); (try decide +kernel)
theorem qtransp_p (m : MR) {K : Nat} (hm : Gm K m) (hK : K < 1099511627776) :
    PCall Try.prog 9 [.d (md m)] (.tup [.d (md (nm (transQ (valM m) m.2.length (colsOf m.2)))), .d (.v (.int .i64 0))]) ∧ Gm (max K 1) (nm (transQ (valM m) m.2.length (colsOf m.2))) := by
  have hck := check_p m hm.d hm.g
  rw [hm.check] at hck
  have hcl := colsOf_lt hm.g
  have hnr := hm.g.nr
  have hf : ∀ i k, i < colsOf m.2 → k < m.2.length → Rz (rget m k i) ∧ zl (ofR (rget m k i)) ≤ K := fun i k hi hk => by
    obtain ⟨_, _, h1, h2⟩ := hm.rget hk hi
    exact ⟨h1, h2⟩
  have ht := tabler_p (fun i k => rget m k i) (colsOf m.2) m.2.length 30 [.bw (mel m)] (caps_bw1 _) hcl hnr (fun i k hi hk => transp1_p m hm i k hi hk)
  obtain ⟨g1, g2, g3⟩ := grw_rtab hcl hnr hf
  have hmd := made_q m.1 _ hm.d hm.ne g1 g2
  have hb := nm_bound hm.ne g2 g1 hK hm.kd g3
  have e : fracs (ofR m.1) (zz (rtab (fun i k => rget m k i) (colsOf m.2) m.2.length)) = transQ (valM m) m.2.length (colsOf m.2) := by
    rw [zz_rtab]
    simp only [rget_ent]
    exact transZ_eq _ _ _ _
  rw [e] at hmd hb
  refine ⟨?_, hb⟩
  generalize transQ (valM m) m.2.length (colsOf m.2) = T at *
  refine pcall_of hmo Try.func9 rfl (by kernel_rfl) (by simp [Try.ntmps9]) ?_; simp -implicitDefEqProofs [go_sem, Try.ntmps9]; (repeat refine And.intro (by first | decide +kernel | omega | kernel_rfl) ?_); (try decide +kernel)
  refine .inl ⟨_, hck, ?_⟩; simp -implicitDefEqProofs [go_sem]; (repeat refine And.intro (by first | decide +kernel | omega | kernel_rfl) ?_); (try decide +kernel)
  refine .inl ⟨_, size_p m hm.g, ?_⟩; simp -implicitDefEqProofs [go_sem]; (repeat refine And.intro (by first | decide +kernel | omega | kernel_rfl) ?_); (try decide +kernel)
  refine .inl ⟨_, ht, ?_⟩; simp -implicitDefEqProofs [go_sem]; (repeat refine And.intro (by first | decide +kernel | omega | kernel_rfl) ?_); (try decide +kernel)
  refine .inl ⟨_, hmd, ?_⟩; simp -implicitDefEqProofs [go_sem]; (repeat refine And.intro (by first | decide +kernel | omega | kernel_rfl) ?_); (try decide +kernel)
theorem Bm.transp {n K : Nat} {a : MR} (ha : Bm n K a) (hK : K < 1099511627776) :
    PCall Try.prog 9 [.d (md a)] (.tup [.d (md (nm (transQ (valM a) n n))), .d (.v (.int .i64 0))]) ∧ Bm n (K + 1) (nm (transQ (valM a) n n)) := by
  have h := qtransp_p a ha.g hK
  rw [ha.l, ha.c] at h
  exact ⟨h.1, ha.n0, ha.n1, h.2.mono (by omega), by rw [nm_len]; exact length_tabQ _ _ _, by rw [nm_cols]; exact colsOf_tab _ ha.n0⟩
end Go.Mt
/-
  A part of the proof.
-/
set_option linter.unusedSimpArgs false
set_option linter.unusedVariables false
namespace Go.Mt
open Go Go.Pm Go.Proofs
/-! plain laws of row 10 -/
theorem mul_distQ (A B C : List (List Rat)) (n : Nat) : mulQ A (joinQ (· + ·) B C n n) n n n = joinQ (· + ·) (mulQ A B n n n) (mulQ A C n n n) n n := tabQ_congr fun i k hi hk => by
  show _ = entQ (mulQ A B n n n) i k + entQ (mulQ A C n n n) i k
  rw [mul_ent A B hi hk, mul_ent A C hi hk, ← sumN_add]
  exact sumN_congr fun j hj => by
    unfold joinQ; rw [entQ_tabQ _ _ _ _ _ hj hk, Rat.mul_add]
theorem trans_mulQ (A B : List (List Rat)) (n : Nat) : transQ (mulQ A B n n n) n n = mulQ (transQ B n n) (transQ A n n) n n n := tabQ_congr fun i k hi hk => by
  show entQ (mulQ A B n n n) k i = sumN n fun j => entQ (transQ B n n) i j * entQ (transQ A n n) j k
  rw [mul_ent A B hk hi]
  exact sumN_congr fun j hj => by
    unfold transQ; rw [entQ_tabQ _ _ _ _ _ hi hj, entQ_tabQ _ _ _ _ _ hj hk, Rat.mul_comm]
theorem sumN_app (a b : Nat) (f : Nat → Rat) : sumN (a + b) f = sumN a f + sumN b fun j => f (a + j) := by
  induction b with
  | zero => show sumN a f = sumN a f + 0; rw [Rat.add_zero]
  | succ b ih => show sumN (a + b) f + f (a + b) = sumN a f + (sumN b (fun j => f (a + j)) + f (a + b)); rw [ih, Rat.add_assoc]
theorem sumN_prod (n m : Nat) (f : Nat → Rat) : sumN (n * m) f = sumN n fun p => sumN m fun q => f (p * m + q) := by
  induction n with
  | zero => rw [Nat.zero_mul]; rfl
  | succ n ih => rw [Nat.succ_mul, sumN_app, ih]; rfl
theorem kron_mulQ (A B C D : List (List Rat)) (n : Nat) : mulQ (kronQ A B n n n n) (kronQ C D n n n n) (n * n) (n * n) (n * n) = kronQ (mulQ A C n n n) (mulQ B D n n n) n n n n := tabQ_congr fun i k hi hk => by
  by_cases h0 : n = 0
  · subst h0; simp at hi
  have hn : 0 < n := by omega
  have i1 : i / n < n := Nat.div_lt_of_lt_mul hi
  have k1 : k / n < n := Nat.div_lt_of_lt_mul hk
  have i2 : i % n < n := Nat.mod_lt _ hn
  have k2 : k % n < n := Nat.mod_lt _ hn
  show _ = entQ (mulQ A C n n n) (i / n) (k / n) * entQ (mulQ B D n n n) (i % n) (k % n)
  rw [mul_ent A C i1 k1, mul_ent B D i2 k2, sumN_prod, ← sumN_scaler]
  refine sumN_congr fun p hp => ?_
  rw [← sumN_scale]
  refine sumN_congr fun q hq => ?_
  have e1 : (p * n + q) / n = p := by rw [Nat.mul_comm, Nat.mul_add_div hn, Nat.div_eq_of_lt hq, Nat.add_zero]
  have e2 : (p * n + q) % n = q := by rw [Nat.mul_comm, Nat.mul_add_mod, Nat.mod_eq_of_lt hq]
  have hpq : p * n + q < n * n := by
    have : (p + 1) * n ≤ n * n := Nat.mul_le_mul_right _ hp
    rw [Nat.succ_mul] at this
    omega
  unfold kronQ
  rw [entQ_tabQ _ _ _ _ _ hi hpq, entQ_tabQ _ _ _ _ _ hpq hk, e1, e2]
  grind
end Go.Mt
/-
  A part of the proof.
-/
set_option linter.unusedSimpArgs false
set_option linter.unusedVariables false
namespace Go.Mt
open Go Go.Pm Go.Proofs
theorem caps_bw4 (a b c d : List D) : Caps [.bw a, .bw b, .bw c, .bw d] := ⟨fun _ => rfl, fun _ => rfl, rfl, fun _ => ⟨trivial, trivial, trivial, trivial, trivial⟩⟩
theorem tdiv_nat (a b : Nat) : ((a : Int)).tdiv (b : Int) = ((a / b : Nat) : Int) := by
  rw [Int.tdiv_eq_ediv_of_nonneg (by omega)]; rfl
theorem tmod_nat (a b : Nat) : ((a : Int)).tmod (b : Int) = ((a % b : Nat) : Int) := by
  rw [Int.tmod_eq_emod_of_nonneg (by omega)]; rfl
def kronE (a b : MR) (i k : Nat) : Int := entry (zz a.2) (i / b.2.length) (k / colsOf b.2) * entry (zz b.2) (i % b.2.length) (k % colsOf b.2)
set_option maxRecDepth 100000 in
set_option maxHeartbeats 2000000 in
theorem kron1_p (a b : MR) {K : Nat} (ha : Gm K a) (hb : Gm K b) (i k : Nat) (hi : i < a.2.length * b.2.length) (hk : k < colsOf a.2 * colsOf b.2) (hl : a.2.length * b.2.length < 1099511627776) (hl2 : colsOf a.2 * colsOf b.2 < 1099511627776) :
    PCall Try.prog 33 [.d (.v (.int .i64 (i : Int))), .d (.v (.int .i64 (k : Int))), .bw (mel a), .bw [.v (.int .i64 (b.2.length : Int))], .bw [.v (.int .i64 (colsOf b.2 : Int))], .bw (mel b)] (.one (.d (zd (nrm (kronE a b i k))))) := by
  have hb0 : 0 < b.2.length := Nat.pos_of_ne_zero fun h => by rw [h] at hi; omega
  have hc0 : 0 < colsOf b.2 := Nat.pos_of_ne_zero fun h => by rw [h] at hk; omega
  have i1 : i / b.2.length < a.2.length := Nat.div_lt_of_lt_mul (by rw [Nat.mul_comm]; exact hi)
  have k1 : k / colsOf b.2 < colsOf a.2 := Nat.div_lt_of_lt_mul (by rw [Nat.mul_comm]; exact hk)
  have i2 : i % b.2.length < b.2.length := Nat.mod_lt _ hb0
  have k2 : k % colsOf b.2 < colsOf b.2 := Nat.mod_lt _ hc0
  obtain ⟨g1, r1, e1, z1⟩ := ha.ent i1 k1
  obtain ⟨g2, r2, e2, z2⟩ := hb.ent i2 k2
  have d1 := tdiv_nat i b.2.length
  have d2 := tdiv_nat k (colsOf b.2)
  have m1 := tmod_nat i b.2.length
  have m2 := tmod_nat k (colsOf b.2)
  have d3 : (i : Int) / (b.2.length : Int) = ((i / b.2.length : Nat) : Int) := (Int.natCast_ediv ..).symm
  have d4 : (k : Int) / (colsOf b.2 : Int) = ((k / colsOf b.2 : Nat) : Int) := (Int.natCast_ediv ..).symm
  have m3 : (i : Int) % (b.2.length : Int) = ((i % b.2.length : Nat) : Int) := (Int.natCast_emod ..).symm
  have m4 : (k : Int) % (colsOf b.2 : Int) = ((k % colsOf b.2 : Nat) : Int) := (Int.natCast_emod ..).symm
  have hm := mul_p _ _ r1 r2
  rw [← e1, ← e2] at hm
  have n1 : ¬ (b.2.length : Int) = 0 := by omega
  have n2 : ¬ (colsOf b.2 : Int) = 0 := by omega
  have hin : i / b.2.length ≤ i := Nat.div_le_self _ _
  have hkn : k / colsOf b.2 ≤ k := Nat.div_le_self _ _
  show PCall _ _ _ (.one (.d (zd (nrm (entry (zz a.2) (i / b.2.length) (k / colsOf b.2) * entry (zz b.2) (i % b.2.length) (k % colsOf b.2))))))
  generalize i / b.2.length = p at *
  generalize k / colsOf b.2 = q at *
  generalize i % b.2.length = s at *
  generalize k % colsOf b.2 = t at *
  generalize entry (zz a.2) p q * entry (zz b.2) s t = x at *
  have hn1 : ¬ b.2 = [] := fun h => by rw [h] at hb0; exact absurd hb0 (by decide)
  have hn2 : ¬ colsOf b.2 = 0 := by omega
  refine pcall_of hmo Try.func33 rfl (by kernel_rfl) (by simp [Try.ntmps33]) ?_; simp -implicitDefEqProofs [go_sem, Try.ntmps33]; (repeat refine And.intro (by first | decide +kernel | omega | kernel_rfl) ?_); (try decide +kernel)
  simp -implicitDefEqProofs [go_sem, d1, d2, d3, d4, m1, m2, m3, m4, n1, n2, i1, i2, g1, g2, hn1, hn2]; (repeat refine And.intro (by first | decide +kernel | omega | kernel_rfl) ?_); (try decide +kernel)
  refine .inl ⟨_, hm, ?_⟩; simp -implicitDefEqProofs [go_sem]; (repeat refine And.intro (by first | decide +kernel | omega | kernel_rfl) ?_); (try decide +kernel)
set_option maxRecDepth 100000 in
set_option maxHeartbeats 2000000 in
theorem Bm.kron {n K : Nat} {a b : MR} (ha : Bm n K a) (hb : Bm n K b) (hK : 2 * K < 1099511627776) (h8 : n ≤ 31) :
    PCall Try.prog 11 [.d (md a), .d (md b)] (.tup [.d (md (nm (kronQ (valM a) (valM b) n n n n))), .d (.v (.int .i64 0))]) ∧ Bm (n * n) (2 * K + 1) (nm (kronQ (valM a) (valM b) n n n n)) := by
  have h0 := ha.n0
  have hnn : n * n ≤ 31 * 31 := Nat.mul_le_mul h8 h8
  have hn0 : 0 < n * n := Nat.mul_pos h0 h0
  have hd := mul_p a.1 b.1 ha.g.d hb.g.d
  have hdl := zl_mul (ofR a.1) (ofR b.1)
  have hka := ha.g.kd
  have hkb := hb.g.kd
  have hent : ∀ i k, i < n * n → k < n * n → zl (kronE a b i k) ≤ 2 * K := fun i k hi hk => by
    obtain ⟨_, _, e1, z1⟩ := ha.g.ent (i := i / b.2.length) (k := k / colsOf b.2) (by rw [ha.l, hb.l]; exact Nat.div_lt_of_lt_mul hi) (by rw [ha.c, hb.c]; exact Nat.div_lt_of_lt_mul hk)
    obtain ⟨_, _, e2, z2⟩ := hb.g.ent (i := i % b.2.length) (k := k % colsOf b.2) (Nat.mod_lt _ (by rw [hb.l]; exact h0)) (Nat.mod_lt _ (by rw [hb.c]; exact h0))
    rw [← e1] at z1
    rw [← e2] at z2
    unfold kronE
    have := zl_mul (entry (zz a.2) (i / b.2.length) (k / colsOf b.2)) (entry (zz b.2) (i % b.2.length) (k % colsOf b.2))
    omega
  have ht := table_p (kronE a b) (n * n) (n * n) 33 [.bw (mel a), .bw [.v (.int .i64 (b.2.length : Int))], .bw [.v (.int .i64 (colsOf b.2 : Int))], .bw (mel b)] (caps_bw4 _ _ _ _) (by omega) (by omega) (fun i k hi hk => kron1_p a b ha.g hb.g i k (by rw [ha.l, hb.l]; exact hi) (by rw [ha.c, hb.c]; exact hk) (by rw [ha.l, hb.l]; omega) (by rw [ha.c, hb.c]; omega))
  obtain ⟨g1, g2, g3⟩ := grw_tab (K := 2 * K) (by omega) (by omega) (by omega) hent
  have hm := made_q (nrm (ofR a.1 * ofR b.1)) _ (rz (by omega)) (by rw [ofR_nrm]; exact Int.mul_ne_zero ha.g.ne hb.g.ne) g1 g2
  have hb2 := nm_bound (D := ofR a.1 * ofR b.1) (Int.mul_ne_zero ha.g.ne hb.g.ne) g2 g1 (K := 2 * K) (by omega) (by omega) g3
  have e : fracs (ofR a.1 * ofR b.1) (tableZ (kronE a b) (n * n) (n * n)) = kronQ (valM a) (valM b) n n n n := by
    unfold kronE
    rw [hb.l, hb.c]
    exact kronZ_eq (zz a.2) (zz b.2) (ofR a.1) (ofR b.1) _ _ _ _
  rw [ofR_nrm, zz_tab, e] at hm
  rw [zz_tab, e] at hb2
  refine ⟨?_, hn0, by omega, hb2.mono (by omega), by rw [nm_len]; exact length_tabQ _ _ _, by rw [nm_cols]; exact colsOf_tab _ hn0⟩
  have hq : (1000 : Int).tdiv (n : Int) = ((1000 / n : Nat) : Int) := tdiv_nat 1000 n
  have hq1 : n ≤ 1000 / n := (Nat.le_div_iff_mul_le h0).2 (by omega)
  have hq2 : 1000 / n ≤ 1000 := Nat.div_le_self _ _
  have hck := checks2_p a b ha.g hb.g
  have hsa := size_p a ha.g.g
  have hsb := size_p b hb.g.g
  rw [ha.l, ha.c] at hsa
  rw [hb.l, hb.c] at hsb ht
  have hz : ¬ (n : Int) = 0 := by omega
  have hz1 : (0 : Int) < n := by omega
  have hmm : (n : Int) * (n : Int) = ((n * n : Nat) : Int) := by push_cast; rfl
  have hnz : ¬ n = 0 := by omega
  have hq3 : (1000 : Int) / (n : Int) = ((1000 / n : Nat) : Int) := (Int.natCast_ediv 1000 n).symm
  generalize 1000 / n = Q at *
  have hQ : ¬ ((Q : Int) < n) := by omega
  have hQ2 : ¬ Q < n := by omega
  generalize nm (kronQ (valM a) (valM b) n n n n) = R at *
  generalize n * n = N at *
  refine pcall_of hmo Try.func11 rfl (by kernel_rfl) (by simp [Try.ntmps11]) ?_; simp -implicitDefEqProofs [go_sem, Try.ntmps11]; (repeat refine And.intro (by first | decide +kernel | omega | kernel_rfl) ?_); (try decide +kernel)
  refine .inl ⟨_, hck, ?_⟩; simp -implicitDefEqProofs [go_sem]; (repeat refine And.intro (by first | decide +kernel | omega | kernel_rfl) ?_); (try decide +kernel)
  refine .inl ⟨_, hsa, ?_⟩; simp -implicitDefEqProofs [go_sem]; (repeat refine And.intro (by first | decide +kernel | omega | kernel_rfl) ?_); (try decide +kernel)
  refine .inl ⟨_, hsb, ?_⟩; simp -implicitDefEqProofs [go_sem, h0, hQ2, hq, hq3, hz, hz1, hnz, hQ, hmm, undef]; (repeat refine And.intro (by first | decide +kernel | omega | kernel_rfl) ?_); (try decide +kernel)
  refine .inl ⟨_, hd, ?_⟩; simp -implicitDefEqProofs [go_sem, hmm]; (repeat refine And.intro (by first | decide +kernel | omega | kernel_rfl) ?_); (try decide +kernel)
  refine .inl ⟨_, ht, ?_⟩; simp -implicitDefEqProofs [go_sem]; (repeat refine And.intro (by first | decide +kernel | omega | kernel_rfl) ?_); (try decide +kernel)
  refine .inl ⟨_, hm, ?_⟩; simp -implicitDefEqProofs [go_sem]; (repeat refine And.intro (by first | decide +kernel | omega | kernel_rfl) ?_); (try decide +kernel)
end Go.Mt
/-
  A part of the proof.
-/
set_option linter.unusedSimpArgs false
set_option linter.unusedVariables false
namespace Go.Mt
open Go Go.Pm Go.Proofs
/-! qmat.Equal of a matrix and itself; qmat.Pow -/
theorem cmp_self (a : Int) (h : zl a < 1099511627776) : PCall Try.prog 72 [.d (zd (nrm a)), .d (zd (nrm a))] (.one (.d (.v (.int .i64 0)))) := by
  have hs := sign_n a h
  have hl : (nrm a).2.length < 4398046511104 := by rw [rz_len]; omega
  have hc := cmp_ok (nrm a).2 (nrm a).2 (small_limbs _) (small_limbs _) hl hl
  have e : ∀ x, cmpZ x x = 0 := fun x => by unfold cmpZ; rw [if_neg (Nat.lt_irrefl _), if_neg (Nat.lt_irrefl _)]
  rw [e] at hc
  by_cases hn : a.sign < 0
  · refine pcall_of hmo Try.func72 rfl (by kernel_rfl) (by simp [Try.ntmps72]) ?_; simp -implicitDefEqProofs [go_sem, Try.ntmps72]; (repeat refine And.intro (by first | decide +kernel | omega | kernel_rfl) ?_); (try decide +kernel)
    refine .inl ⟨_, hs, ?_⟩; simp -implicitDefEqProofs [go_sem]; (repeat refine And.intro (by first | decide +kernel | omega | kernel_rfl) ?_); (try decide +kernel)
    refine .inl ⟨_, hs, ?_⟩; simp -implicitDefEqProofs [go_sem, hn]; (repeat refine And.intro (by first | decide +kernel | omega | kernel_rfl) ?_); (try decide +kernel)
    refine .inl ⟨_, hc, ?_⟩; simp -implicitDefEqProofs [go_sem]; (repeat refine And.intro (by first | decide +kernel | omega | kernel_rfl) ?_); (try decide +kernel)
  · refine pcall_of hmo Try.func72 rfl (by kernel_rfl) (by simp [Try.ntmps72]) ?_; simp -implicitDefEqProofs [go_sem, Try.ntmps72]; (repeat refine And.intro (by first | decide +kernel | omega | kernel_rfl) ?_); (try decide +kernel)
    refine .inl ⟨_, hs, ?_⟩; simp -implicitDefEqProofs [go_sem]; (repeat refine And.intro (by first | decide +kernel | omega | kernel_rfl) ?_); (try decide +kernel)
    refine .inl ⟨_, hs, ?_⟩; simp -implicitDefEqProofs [go_sem, hn]; (repeat refine And.intro (by first | decide +kernel | omega | kernel_rfl) ?_); (try decide +kernel)
    refine .inl ⟨_, hc, ?_⟩; simp -implicitDefEqProofs [go_sem]; (repeat refine And.intro (by first | decide +kernel | omega | kernel_rfl) ?_); (try decide +kernel)
set_option maxRecDepth 100000 in
set_option maxHeartbeats 2000000 in
theorem qsame_p (m : MR) (hd : Rz m.1) (hg : Grw m.2) (hl : zl (ofR m.1) < 274877906944) (hz : ∀ r ∈ m.2, ∀ z ∈ r, zl (ofR z) < 274877906944) : PCall Try.prog 55 [.d (md m), .d (md m)] (.one (.d (.v (.bool true)))) := by
  have hnr := hg.nr
  refine pcall_of hmo Try.func55 rfl (by kernel_rfl) (by simp [Try.ntmps55]) ?_; simp -implicitDefEqProofs [go_sem, Try.ntmps55]; (repeat refine And.intro (by first | decide +kernel | omega | kernel_rfl) ?_); (try decide +kernel)
  refine loop_rule [] (fun (i : Nat) => ⟨59, [(2, .pr 0 0 0 0), (3, .pr 4 0 0 0), (17, .d (.sl (rws m.2))), (18, intP .i64 (m.2.length : Int)), (19, intP .i64 (i : Int))], [(4, .box (mbx m)), (0, .box (mbx m))], 1000⟩)
    (fun i => i ≤ m.2.length) (fun i => m.2.length - i) 0 (Nat.zero_le _) (by simp) (by simp -implicitDefEqProofs [go_sem, mbx]) (fun i hi => ?_)
  by_cases hil : i < m.2.length
  · have hm := List.getElem_mem hil
    have hnc := hg.nc _ hm
    have hrz := hg.rz _ hm
    have hzz := hz _ hm
    obtain ⟨row, hrow⟩ : ∃ row, row = m.2[i] := ⟨_, rfl⟩
    rw [← hrow] at hnc hrz hzz
    simp -implicitDefEqProofs [go_sem, hil, mbx, ← hrow]; (repeat refine And.intro (by first | decide +kernel | omega | kernel_rfl) ?_); (try decide +kernel)
    refine loop_rule [] (fun (k : Nat) => ⟨59, [(2, .pr 0 0 0 0), (3, .pr 4 0 0 0), (5, intP .i64 (i : Int)), (6, .d (.sl (zes row))), (17, .d (.sl (rws m.2))), (18, intP .i64 (m.2.length : Int)), (19, intP .i64 (i : Int)), (33, .d (.sl (zes row))), (34, intP .i64 (row.length : Int)), (35, intP .i64 (k : Int))], [(4, .box (mbx m)), (0, .box (mbx m))], 2000⟩)
      (fun k => k ≤ row.length) (fun k => row.length - k) 0 (Nat.zero_le _) (by simp) (by simp -implicitDefEqProofs [go_sem, mbx]) (fun k hk => ?_)
    by_cases hkl : k < row.length
    · have hzm : row[k] ∈ row := List.getElem_mem hkl
      have hml := mul_p row[k] m.1 (hrz _ hzm) hd
      have hzl := zl_mul (ofR row[k]) (ofR m.1)
      have hb := hzz _ hzm
      have hc := cmp_self (ofR row[k] * ofR m.1) (by omega)
      simp -implicitDefEqProofs [go_sem, hkl, hil, mbx, ← hrow]; (repeat refine And.intro (by first | decide +kernel | omega | kernel_rfl) ?_); (try decide +kernel)
      refine .inl ⟨_, hml, ?_⟩; simp -implicitDefEqProofs [go_sem, hkl, hil, mbx, ← hrow]; (repeat refine And.intro (by first | decide +kernel | omega | kernel_rfl) ?_); (try decide +kernel)
      refine .inl ⟨_, hml, ?_⟩; simp -implicitDefEqProofs [go_sem, hkl, hil, mbx, ← hrow]; (repeat refine And.intro (by first | decide +kernel | omega | kernel_rfl) ?_); (try decide +kernel)
      refine .inl ⟨_, hc, ?_⟩; simp -implicitDefEqProofs [go_sem, hkl, hil, mbx, ← hrow]; (repeat refine And.intro (by first | decide +kernel | omega | kernel_rfl) ?_); (try decide +kernel)
      refine ⟨k + 1, ?_⟩; (repeat' apply And.intro) <;> first | omega | assumption | rfl
    · obtain rfl : k = row.length := by omega
      simp -implicitDefEqProofs [go_sem, mbx]; (repeat refine And.intro (by first | decide +kernel | omega | kernel_rfl) ?_); (try decide +kernel)
      refine ⟨i + 1, ?_⟩; (repeat' apply And.intro) <;> first | omega | assumption | rfl
  · obtain rfl : i = m.2.length := by omega
    simp -implicitDefEqProofs [go_sem, mbx]; (repeat refine And.intro (by first | decide +kernel | omega | kernel_rfl) ?_); (try decide +kernel)
theorem qequal_p (m : MR) {K : Nat} (hm : Gm K m) (hK : K < 274877906944) : PCall Try.prog 36 [.d (md m), .d (md m)] (.tup [.d (.v (.bool true)), .d (.v (.int .i64 0))]) := by
  have hck := checks2_p m m hm hm
  have hs := qsame_p m hm.d hm.g (by have := hm.kd; omega) (fun r hr z hz => by have := hm.k r hr z hz; omega)
  refine pcall_of hmo Try.func36 rfl (by kernel_rfl) (by simp [Try.ntmps36]) ?_; simp -implicitDefEqProofs [go_sem, Try.ntmps36]; (repeat refine And.intro (by first | decide +kernel | omega | kernel_rfl) ?_); (try decide +kernel)
  refine .inl ⟨_, hck, ?_⟩; simp -implicitDefEqProofs [go_sem]; (repeat refine And.intro (by first | decide +kernel | omega | kernel_rfl) ?_); (try decide +kernel)
  refine .inl ⟨_, hs, ?_⟩; simp -implicitDefEqProofs [go_sem]; (repeat refine And.intro (by first | decide +kernel | omega | kernel_rfl) ?_); (try decide +kernel)
theorem lequal_p (m : MR) {K : Nat} (hm : Gm K m) (hK : K < 274877906944) : PCall Try.prog 13 [.d (md m), .d (md m)] (.one (.d (.v (.bool true)))) := by
  have h := qequal_p m hm hK
  refine pcall_of hmo Try.func13 rfl (by kernel_rfl) (by simp [Try.ntmps13]) ?_; simp -implicitDefEqProofs [go_sem, Try.ntmps13]; (repeat refine And.intro (by first | decide +kernel | omega | kernel_rfl) ?_); (try decide +kernel)
  refine .inl ⟨_, h, ?_⟩; simp -implicitDefEqProofs [go_sem, undef]; (repeat refine And.intro (by first | decide +kernel | omega | kernel_rfl) ?_); (try decide +kernel)
theorem pw1_p (i k : Nat) (hi : i < 1099511627776) (hk : k < 1099511627776) : PCall Try.prog 35 [.d (.v (.int .i64 (i : Int))), .d (.v (.int .i64 (k : Int)))] (.one (.d (zd (nrm (idZ i k))))) := by
  by_cases h : i = k
  · have e : idZ i k = 1 := if_pos h
    rw [e]
    refine pcall_of hmo Try.func35 rfl (by kernel_rfl) (by simp [Try.ntmps35]) ?_; simp -implicitDefEqProofs [go_sem, Try.ntmps35]; (repeat refine And.intro (by first | decide +kernel | omega | kernel_rfl) ?_); (try decide +kernel)
    simp -implicitDefEqProofs [go_sem, h]; (repeat refine And.intro (by first | decide +kernel | omega | kernel_rfl) ?_); (try decide +kernel)
    refine .inl ⟨_, of_p 1 (by decide) (by decide), ?_⟩; simp -implicitDefEqProofs [go_sem]; (repeat refine And.intro (by first | decide +kernel | omega | kernel_rfl) ?_); (try decide +kernel)
  · have e : idZ i k = 0 := if_neg h
    have h' : ¬ (i : Int) = k := by omega
    rw [e]
    refine pcall_of hmo Try.func35 rfl (by kernel_rfl) (by simp [Try.ntmps35]) ?_; simp -implicitDefEqProofs [go_sem, Try.ntmps35]; (repeat refine And.intro (by first | decide +kernel | omega | kernel_rfl) ?_); (try decide +kernel)
    simp -implicitDefEqProofs [go_sem, h, h', nrm_zero, les_nil]; (repeat refine And.intro (by first | decide +kernel | omega | kernel_rfl) ?_); (try decide +kernel)
theorem pw_rows (A : List (List Rat)) (n t : Nat) : (pwQ A n t).length = n ∧ ∀ r ∈ pwQ A n t, r.length = n := ⟨length_tabQ _ _ _, fun r hr => row_tabQ _ _ _ r hr⟩
theorem pw_add (A : List (List Rat)) (n s t : Nat) : mulQ (pwQ A n s) (pwQ A n t) n n n = pwQ A n (s + t) := by
  induction t with
  | zero =>
    have e : pwQ A n 0 = identQ n := rfl
    rw [e, mul_idr _ (pw_rows A n s).1 (pw_rows A n s).2]; rfl
  | succ t ih => rw [← pw_mul, ← mul_assocQ, ih, pw_mul]; rfl
theorem pw_bm {m : MR} {n K : Nat} (h : Bm n K m) (t : Nat) (hK : 2 * (t + 1) * (K + 4) < 274877906944) : Bm n (t * (K + 2) + 1) (nm (pwQ (valM m) n t)) := by
  induction t with
  | zero => rw [Nat.zero_mul, Nat.zero_add]; exact (Sq.id h.n0 h.n1).bm
  | succ t ih =>
    have e1 : 2 * (t + 1 + 1) * (K + 4) = 2 * (t + 1) * (K + 4) + 2 * (K + 4) := by rw [Nat.mul_succ 2 (t + 1), Nat.add_mul]
    have e2 : (t + 1) * (K + 2) = t * (K + 2) + (K + 2) := Nat.succ_mul _ _
    have e3 : t * (K + 2) ≤ (t + 1) * (K + 4) := Nat.mul_le_mul (by omega) (by omega)
    have e4 : 2 * (t + 1) * (K + 4) = 2 * ((t + 1) * (K + 4)) := Nat.mul_assoc _ _ _
    have h1 := (Bm.mul (ih (by omega)) h (by omega)).2
    rw [valM_nm, pw_mul] at h1
    exact h1.mono (by omega)
theorem bit_ok : ∀ y : Fin 1001, bAnd .i64 ((y.val : Nat) : Int) 1 = ((y.val % 2 : Nat) : Int) := by decide +kernel
theorem bit_nat (y : Nat) (hy : y ≤ 1000) : bAnd .i64 ((y : Nat) : Int) 1 = ((y % 2 : Nat) : Int) := bit_ok ⟨y, by omega⟩
theorem shr_ok (k i : Nat) (hi : i ≤ 10) : ((k : Nat) : Int).fdiv (2 ^ min i 64) = ((k / 2 ^ i : Nat) : Int) := by
  rw [Nat.min_eq_left (by omega), Int.fdiv_eq_ediv_of_nonneg _ (by exact Int.le_of_lt (Int.pow_pos (by decide)))]
  push_cast
  rfl
set_option maxRecDepth 100000 in
set_option maxHeartbeats 4000000 in
theorem Bm.pow {n K : Nat} {m : MR} (h : Bm n K m) (k : Nat) (hk : k ≤ 1000) (hK : 4 * (k + 2) * (K + 4) < 274877906944) :
    PCall Try.prog 12 [.d (md m), .d (.v (.int .i64 (k : Int)))] (.tup [.d (md (nm (pwQ (valM m) n k))), .d (.v (.int .i64 0))]) := by
  have hsq := qsquare_p m h.g.d h.g.g h.g.check (by rw [h.l]; exact h.n0) (by rw [h.l, h.c])
  have hk0 : ¬ (k : Int) < 0 := by omega
  have hk1 : ¬ (1000 : Int) < (k : Int) := by omega
  have hn1 := h.n1
  have ht := table_p idZ n n 35 [] caps_nil (by omega) (by omega) (fun i k hi hk => pw1_p i k (by omega) (by omega))
  obtain ⟨g1, g2, g3⟩ := grw_tab (K := 1) (f := idZ) (r := n) (c := n) (by decide) (by omega) (by omega) (fun i k _ _ => by unfold idZ; split <;> decide)
  have hm := made_q (nrm 1) (ztab idZ n n) (rz (by decide)) (by rw [ofR_nrm]; decide) g1 g2
  rw [ofR_nrm, zz_tab, frac_id] at hm
  have hof := of_p 1 (by decide) (by decide)
  have hl := h.l
  have hpb : ∀ t, t ≤ k → Bm n (t * (K + 2) + 1) (nm (pwQ (valM m) n t)) := fun t ht => pw_bm h t (by
    have : 2 * (t + 1) * (K + 4) ≤ 4 * (k + 2) * (K + 4) := Nat.mul_le_mul_right _ (by omega)
    omega)
  have hbd : ∀ t, t ≤ k → 2 * (t * (K + 2) + 1) + 2 * (t * (K + 2) + 1) + 2 < 1099511627776 ∧ 2 * (t * (K + 2) + 1) + 2 * K + 2 < 1099511627776 := fun t ht => by
    have h1 : t * (K + 2) ≤ k * (K + 4) := Nat.mul_le_mul ht (by omega)
    have h2 : 4 * (k + 2) * (K + 4) = 4 * ((k + 2) * (K + 4)) := Nat.mul_assoc _ _ _
    have h3 : (k + 2) * (K + 4) = k * (K + 4) + 2 * (K + 4) := Nat.add_mul _ _ _
    omega
  obtain ⟨N, hN⟩ : ∃ N : Nat → MR, N = fun t => nm (pwQ (valM m) n t) := ⟨_, rfl⟩
  have hN0 : N 0 = nm (identQ n) := by rw [hN]; rfl
  have hsqr : ∀ t, 2 * t ≤ k → PCall Try.prog 7 [.d (md (N t)), .d (md (N t))] (.tup [.d (md (N (2 * t))), .d (.v (.int .i64 0))]) := fun t ht => by
    have h1 := (Bm.mul (hpb t (by omega)) (hpb t (by omega)) (hbd t (by omega)).1).1
    rw [valM_nm, pw_add, ← Nat.two_mul] at h1
    rw [hN]; exact h1
  have hone : ∀ t, t + 1 ≤ k → PCall Try.prog 7 [.d (md (N t)), .d (md m)] (.tup [.d (md (N (t + 1))), .d (.v (.int .i64 0))]) := fun t ht => by
    have h1 := (Bm.mul (hpb t (by omega)) h (hbd t (by omega)).2).1
    rw [valM_nm, pw_mul] at h1
    rw [hN]; exact h1
  have hNk : nm (pwQ (valM m) n k) = N k := by rw [hN]
  rw [hNk]
  rw [← hN0] at hm
  clear hN hN0
  refine pcall_of hmo Try.func12 rfl (by kernel_rfl) (by simp [Try.ntmps12]) ?_; simp -implicitDefEqProofs [go_sem, Try.ntmps12]; (repeat refine And.intro (by first | decide +kernel | omega | kernel_rfl) ?_); (try decide +kernel)
  refine .inl ⟨_, hsq, ?_⟩; simp -implicitDefEqProofs [go_sem, hk0, hk1]; (repeat refine And.intro (by first | decide +kernel | omega | kernel_rfl) ?_); (try decide +kernel)
  refine .inl ⟨_, hof, ?_⟩; simp -implicitDefEqProofs [go_sem, hl]; (repeat refine And.intro (by first | decide +kernel | omega | kernel_rfl) ?_); (try decide +kernel)
  refine .inl ⟨_, ht, ?_⟩; simp -implicitDefEqProofs [go_sem]; (repeat refine And.intro (by first | decide +kernel | omega | kernel_rfl) ?_); (try decide +kernel)
  refine .inl ⟨_, hm, ?_⟩; simp -implicitDefEqProofs [go_sem]; (repeat refine And.intro (by first | decide +kernel | omega | kernel_rfl) ?_); (try decide +kernel)
  have hk2 : k / 2 ^ 11 = 0 := Nat.div_eq_of_lt (by omega)
  refine loop_rule [] (fun (x : Nat) => ⟨55, [(1, intP .i64 (k : Int)), (2, .pr 0 0 0 0), (4, .pr 4 0 0 0), (8, .pr 96 0 0 0), (9, intP .i64 ((x : Int) - 1))],
      [(96, .box (mbx (N (k / 2 ^ x)))), (0, .box (mbx m)), (4, .box [.d (.v (.bool false)), .nl, .nl])], 1000⟩)
    (fun x => x ≤ 11) (fun x => x) 11 (Nat.le_refl _) (by simp) (by simp -implicitDefEqProofs [go_sem, mbx, hk2]) (fun x hx => ?_)
  by_cases hx0 : x = 0
  · subst hx0
    have e : k / 2 ^ 0 = k := by simp
    rw [e]
    simp -implicitDefEqProofs [go_sem, mbx]; (repeat refine And.intro (by first | decide +kernel | omega | kernel_rfl) ?_); (try decide +kernel)
  · obtain ⟨i, rfl⟩ : ∃ i, x = i + 1 := ⟨x - 1, by omega⟩
    have e1 : k / 2 ^ (i + 1) = k / 2 ^ i / 2 := by rw [Nat.pow_succ, Nat.div_div_eq_div_mul]
    have e2 : k / 2 ^ i ≤ k := Nat.div_le_self _ _
    have hxi : (((i + 1 : Nat) : Int)) - 1 = (i : Int) := by omega
    have hsh := shr_ok k i (by omega)
    have hbt := bit_nat (k / 2 ^ i) (by omega)
    rw [e1, hxi]
    generalize hy : k / 2 ^ i = y at *
    have hq := hsqr (y / 2) (by omega)
    have ho := hone (2 * (y / 2)) 
    by_cases hb : y % 2 = 1
    · have ho := ho (by omega)
      rw [show 2 * (y / 2) + 1 = y by omega] at ho
      rw [hb] at hbt
      simp -implicitDefEqProofs [go_sem, mbx]; (repeat refine And.intro (by first | decide +kernel | omega | kernel_rfl) ?_); (try decide +kernel)
      refine .inl ⟨_, hq, ?_⟩; simp -implicitDefEqProofs [go_sem, mbx, hsh, hbt]; (repeat refine And.intro (by first | decide +kernel | omega | kernel_rfl) ?_); (try decide +kernel)
      refine .inl ⟨_, ho, ?_⟩; simp -implicitDefEqProofs [go_sem, mbx]; (repeat refine And.intro (by first | decide +kernel | omega | kernel_rfl) ?_); (try decide +kernel)
      refine ⟨i, by omega, by omega, ?_⟩
      rw [hy]
      simp
    · have hb0 : y % 2 = 0 := by omega
      rw [show 2 * (y / 2) = y by omega] at hq
      rw [hb0] at hbt
      simp -implicitDefEqProofs [go_sem, mbx]; (repeat refine And.intro (by first | decide +kernel | omega | kernel_rfl) ?_); (try decide +kernel)
      refine .inl ⟨_, hq, ?_⟩; simp -implicitDefEqProofs [go_sem, mbx, hsh, hbt]; (repeat refine And.intro (by first | decide +kernel | omega | kernel_rfl) ?_); (try decide +kernel)
      refine ⟨i, by omega, by omega, ?_⟩
      rw [hy]
      simp
end Go.Mt
