/-
  A part of the proof.
-/
import Derived.Test.YtmhclkagdpbadaaGreatEtr51
import Derived.Test.YtmhclkagdpbadaaGreatEtr53
set_option linter.unusedVariables false
set_option linter.unusedSimpArgs false
set_option linter.unusedSimpArgs false
set_option linter.unusedVariables false
namespace Go.Mt
open Go Go.Pm Go.Proofs
theorem Iw.lv {v : VR} (h : Iw v) (h0 : ofR v.1 ≠ 0) : Lv v := ⟨h.d, h0, by have := h.ld; omega, fun z hz => ⟨(h.z z hz).1, by have := (h.z z hz).2; omega⟩, by have := h.n; omega⟩
/-- a power of a matrix -/
def pwQ (A : List (List Rat)) (n t : Nat) : List (List Rat) := tabQ (pwE A n t) n n
theorem pw_mul (A : List (List Rat)) (n t : Nat) : mulQ (pwQ A n t) A n n n = pwQ A n (t + 1) := tabQ_congr fun i k hi hk => by
  show _ = sumN n fun j => pwE A n t i j * entQ A j k
  exact sumN_congr fun j hj => by unfold pwQ; rw [entQ_tabQ _ _ _ _ _ hi hj]
theorem pw_sq {n K : Nat} {A : List (List Rat)} (h : Sq n K A) (t : Nat) (hK : 2 * ((K + 3) * (t + 1)) < 1099511627776 - 10) : Sq n ((K + 3) * t + 1) (pwQ A n t) := by
  induction t with
  | zero => exact Sq.id h.n0 h.n1
  | succ t ih =>
    have e1 : (K + 3) * (t + 1) = (K + 3) * t + (K + 3) := Nat.mul_succ _ _
    have e2 : (K + 3) * (t + 1 + 1) = (K + 3) * (t + 1) + (K + 3) := Nat.mul_succ _ _
    have s := (ih (by omega)).mul h (by omega)
    have s2 := s.2
    rw [pw_mul] at s2
    exact ⟨s2.n0, s2.n1, s2.l, s2.c, s2.g.mono (by omega)⟩
theorem Sq.mono {n K L : Nat} {A : List (List Rat)} (h : Sq n K A) (hl : K ≤ L) : Sq n L A := ⟨h.n0, h.n1, h.l, h.c, h.g.mono hl⟩
end Go.Mt
/-
  A part of the proof.
-/
set_option linter.unusedSimpArgs false
set_option linter.unusedVariables false
namespace Go.Mt
open Go Go.Pm Go.Proofs
theorem qsquare_p (m : MR) (hd : Rz m.1) (hg : Grw m.2) (hc : checkE m = 0) (h0 : 0 < m.2.length) (hsq : m.2.length = colsOf m.2) : PCall Tryz.prog 235 [.d (md m)] (.one (.d (.v (.int .i64 0)))) := by
  have h := check_p m hd hg
  rw [hc] at h
  have hz : ((m.2.length : Nat) : Int) = ((colsOf m.2 : Nat) : Int) := by omega
  have hz0 : ¬ ((m.2.length : Nat) : Int) = 0 := by omega
  have hz1 : ¬ colsOf m.2 = 0 := by omega
  have hn0 : ¬ m.2 = [] := fun h => by rw [h] at h0; simp at h0
  refine pcall_of hmo Tryz.func235 rfl (by kernel_rfl) (by simp [Tryz.ntmps235]) ?_; simp -implicitDefEqProofs [go_sem, Tryz.ntmps235]; (repeat refine And.intro (by first | decide +kernel | omega | kernel_rfl) ?_); (try decide +kernel)
  refine .inl ⟨_, h, ?_⟩; simp -implicitDefEqProofs [go_sem]; (repeat refine And.intro (by first | decide +kernel | omega | kernel_rfl) ?_); (try decide +kernel)
  refine .inl ⟨_, size_p m hg, ?_⟩; simp -implicitDefEqProofs [go_sem, hz, hz0, hz1, hsq, hn0]; (repeat refine And.intro (by first | decide +kernel | omega | kernel_rfl) ?_); (try decide +kernel)
/-- the trace -/
def trQ (A : List (List Rat)) (n : Nat) : Rat := sumN n fun i => entQ A i i
def trZ (m : MR) (n : Nat) : Int := sumZ n fun i => entry (zz m.2) i i
theorem tr_val (m : MR) (n : Nat) (h : ofR m.1 ≠ 0) : ratv (trZ m n) (ofR m.1) = trQ (valM m) n := by
  unfold trZ trQ
  rw [ratv_sum h]
  exact sumN_congr fun j _ => by unfold valM; rw [entQ_fracs]
set_option maxRecDepth 100000 in
set_option maxHeartbeats 1000000 in
theorem trace_p (m : MR) {K : Nat} (hm : Gm K m) (h0 : 0 < m.2.length) (hsq : m.2.length = colsOf m.2) (hK : K + 3 < 1099511627776) :
    PCall Tryz.prog 168 [.d (md m)] (.tup [.d (qd (nq (trQ (valM m) m.2.length))), .d (.v (.int .i64 0))]) := by
  have he : checkE m = 0 := by unfold checkE; rw [if_neg hm.ne, if_pos hm.ev]
  have hq := qsquare_p m hm.d hm.g he h0 hsq
  have hnr := hm.g.nr
  have hbd : ∀ j, j ≤ m.2.length → zl (trZ m j) ≤ K + 2 := fun j hj => zl_sumZ (fun i hi => by
    obtain ⟨_, _, e1, h1⟩ := hm.ent (i := i) (k := i) (by omega) (by omega)
    rw [e1]; exact h1) (by omega)
  have hmk := make_p (nrm (trZ m m.2.length)) m.1 (rz (by have := hbd _ (Nat.le_refl _); omega)) hm.d hm.ne
  rw [ofR_nrm, tr_val m _ hm.ne] at hmk
  generalize trQ (valM m) m.2.length = T at *
  refine pcall_of hmo Tryz.func168 rfl (by kernel_rfl) (by simp [Tryz.ntmps168]) ?_; simp -implicitDefEqProofs [go_sem, Tryz.ntmps168]; (repeat refine And.intro (by first | decide +kernel | omega | kernel_rfl) ?_); (try decide +kernel)
  refine .inl ⟨_, hq, ?_⟩; simp -implicitDefEqProofs [go_sem]; (repeat refine And.intro (by first | decide +kernel | omega | kernel_rfl) ?_); (try decide +kernel)
  refine loop_rule [.nilB 32 1] (fun (i : Nat) => ⟨36, [(1, .pr 0 0 0 0), (2, .pr 4 0 0 0), (3, intP .i64 0), (5, .pr 32 0 0 0), (14, .d (.sl (rws m.2))), (15, intP .i64 (m.2.length : Int)), (16, intP .i64 (i : Int))],
      [(32, .box [.d (.v (.bool (nrm (trZ m i)).1)), .d (.sl (les (nrm (trZ m i)).2))]), (4, .box [.d (.v (.bool false)), .nl, .d (.v (.bool false)), .nl]), (0, .box (mbx m))], 1000⟩)
    (fun i => i ≤ m.2.length) (fun i => m.2.length - i) 0 (Nat.zero_le _) (by simp) (by simp -implicitDefEqProofs [go_sem, mbx, trZ, sumZ, nrm_zero, les_nil]) (fun i hi => ?_)
  by_cases hil : i < m.2.length
  · obtain ⟨g1, r1, e1, k1⟩ := hm.ent (i := i) (k := i) hil (by omega)
    have had := add_p (nrm (trZ m i)) m.2[i][i] (rz (by have := hbd i hi; omega)) r1
    rw [ofR_nrm, ← e1] at had
    have e3 : trZ m i + entry (zz m.2) i i = trZ m (i + 1) := rfl
    rw [e3] at had
    simp -implicitDefEqProofs [go_sem, mbx, hil, g1]; (repeat refine And.intro (by first | decide +kernel | omega | kernel_rfl) ?_); (try decide +kernel)
    refine .inl ⟨_, had, ?_⟩; simp -implicitDefEqProofs [go_sem, hil, g1]; (repeat refine And.intro (by first | decide +kernel | omega | kernel_rfl) ?_); (try decide +kernel)
    refine ⟨i + 1, ?_⟩; (repeat' apply And.intro) <;> first | omega | assumption | rfl
  · obtain rfl : i = m.2.length := by omega
    simp -implicitDefEqProofs [go_sem, mbx]; (repeat refine And.intro (by first | decide +kernel | omega | kernel_rfl) ?_); (try decide +kernel)
    refine .inl ⟨_, hmk, ?_⟩; simp -implicitDefEqProofs [go_sem]; (repeat refine And.intro (by first | decide +kernel | omega | kernel_rfl) ?_); (try decide +kernel)
end Go.Mt
/-
  A part of the proof.
-/
set_option linter.unusedSimpArgs false
set_option linter.unusedVariables false
namespace Go.Mt
open Go Go.Pm Go.Proofs
theorem powers_h (m : MR) (k : Int) (n : Nat) : HCall Tryz.prog 234 [.agg (mbx m), .d (.v (.int .i64 k))] [] n (.fn 272 [.pr n 0 0 0, .pr (n + 1) 0 0 0]) [(n, .box (mbx m)), (n + 1, .box [.d (.v (.int .i64 k))])] := by
  refine hcall_of (L := [n, n + 4]) hmo Tryz.func234 rfl (by kernel_rfl) (by simp [Tryz.ntmps234]) (by simp -implicitDefEqProofs [go_sem]) (by simp -implicitDefEqProofs [go_sem, mbx]) ?_
  have hix : List.idxOf (n + 4) [n, n + 4] = 1 := by
    have hb : (n == n + 4) = false := beq_eq_false_iff_ne.2 (by omega)
    rw [List.idxOf_cons, hb]; simp
  simp -implicitDefEqProofs [go_sem, Tryz.ntmps234, mbx, hix]
/-- the faults of powers -/
def pwX (m : MR) (k : Int) : Int := if fitE m = 0 then (if k < 0 ∨ 100 < k then 1 else 0) else fitE m
theorem Powers_h (m : MR) (k : Int) (hm : Im m) (n : Nat) (h : pwX m k = 0) : HCall Tryz.prog 167 [.agg (mbx m), .d (.v (.int .i64 k))] [] n (.tup [.fn 272 [.pr n 0 0 0, .pr (n + 1) 0 0 0], .d (.v (.int .i64 0))]) [(n, .box (mbx (nm (valM m)))), (n + 1, .box [.d (.v (.int .i64 k))])] := by
  have hf := fitMat_y m hm
  have h0 : fitE m = 0 := by
    by_cases h0 : fitE m = 0
    · exact h0
    · rw [show pwX m k = fitE m from if_neg h0] at h; exact absurd h h0
  have h1 : ¬ (k < 0 ∨ 100 < k) := fun h1 => by
    rw [show pwX m k = if k < 0 ∨ 100 < k then 1 else 0 from if_pos h0, if_pos h1] at h; exact absurd h (by decide)
  have h2 : ¬ k < 0 := by omega
  have h3 : ¬ 100 < k := by omega
  have e : fmX m = nm (valM m) := if_pos h0
  rw [h0, e] at hf
  have hp := fun nd => powers_h (nm (valM m)) k nd
  generalize nm (valM m) = Y at *
  have hix : List.idxOf (n + 81) [n + 80, n + 81] = 1 := by
    have hb : (n + 80 == n + 81) = false := beq_eq_false_iff_ne.2 (by omega)
    rw [List.idxOf_cons, hb]; simp
  refine hcall_of (L := [n + 80, n + 81]) hmo Tryz.func167 rfl (by kernel_rfl) (by simp [Tryz.ntmps167]) (by simp -implicitDefEqProofs [go_sem]) (by simp -implicitDefEqProofs [go_sem, mbx]) ?_
  simp -implicitDefEqProofs [go_sem, Tryz.ntmps167, mbx]
  refine .inl ⟨_, hf, ?_⟩; simp -implicitDefEqProofs [go_sem, h2, h3, Nat.add_assoc]; (repeat refine And.intro (by first | decide +kernel | omega | kernel_rfl) ?_); (try decide +kernel)
  refine .inr ⟨[], _, _, hp _, by simp -implicitDefEqProofs [go_sem], ?_⟩
  simp -implicitDefEqProofs [go_sem, mbx, hix, Nat.add_assoc]
end Go.Mt
/-
  A part of the proof.
-/
set_option linter.unusedSimpArgs false
set_option linter.unusedVariables false
namespace Go.Mt
open Go Go.Pm Go.Proofs
/-- the traces of the first powers -/
def trs (A : List (List Rat)) (n k : Nat) : List QR := (List.range k).map fun t => nq (trQ (pwQ A n (t + 1)) n)
theorem trs_len (A : List (List Rat)) (n k : Nat) : (trs A n k).length = k := by simp [trs]
theorem trs_snoc (A : List (List Rat)) (n k : Nat) : qes (trs A n k) ++ [qel (nq (trQ (pwQ A n (k + 1)) n))] = qes (trs A n (k + 1)) := by
  unfold trs; rw [List.range_succ, List.map_append]; simp [qes]
set_option maxRecDepth 100000 in
set_option maxHeartbeats 4000000 in
theorem Traces_p (m : MR) (k : Nat) (hm : Im m) (h : pwX m (k : Int) = 0) : PCall Tryz.prog 83 [.d (md m), .d (.v (.int .i64 (k : Int)))] (.tup [.d (.sl (qes (trs (valM m) m.2.length k))), .d (.v (.int .i64 0))]) := by
  have hp := fun nd => Powers_h m (k : Int) hm nd h
  have h0 : fitE m = 0 := by
    by_cases h0 : fitE m = 0
    · exact h0
    · rw [show pwX m (k : Int) = fitE m from if_neg h0] at h; exact absurd h h0
  have hk : k ≤ 100 := by
    by_cases h1 : (k : Int) < 0 ∨ 100 < (k : Int)
    · rw [show pwX m (k : Int) = if (k : Int) < 0 ∨ 100 < (k : Int) then 1 else 0 from if_pos h0, if_pos h1] at h; exact absurd h (by decide)
    · omega
  have hs := hm.sq h0
  have hpw : ∀ t, t ≤ 101 → Sq m.2.length 210000000 (pwQ (valM m) m.2.length t) := fun t ht => (pw_sq hs t (by omega)).mono (by omega)
  have hi := ident_p m.2.length hs.n1
  have e1 : identQ m.2.length = pwQ (valM m) m.2.length 0 := rfl
  rw [e1] at hi
  have hal : (nm (valM m)).2.length = m.2.length := by rw [nm_len, hs.l]
  obtain ⟨A, hA⟩ : ∃ A, A = valM m := ⟨_, rfl⟩
  rw [← hA] at hs hpw hi hp hal ⊢
  obtain ⟨n, hn⟩ : ∃ n, n = m.2.length := ⟨_, rfl⟩
  rw [← hn] at hs hpw hi hal ⊢
  obtain ⟨M, hM⟩ : ∃ M, M = nm A := ⟨_, rfl⟩
  rw [← hM] at hp hal
  refine pcall_of hmo Tryz.func83 rfl (by kernel_rfl) (by simp [Tryz.ntmps83]) ?_; simp -implicitDefEqProofs [go_sem, Tryz.ntmps83]; (repeat refine And.intro (by first | decide +kernel | omega | kernel_rfl) ?_); (try decide +kernel)
  refine .inr ⟨[], _, _, hp _, by simp -implicitDefEqProofs [go_sem], ?_⟩
  simp -implicitDefEqProofs [go_sem, mbx]; (repeat refine And.intro (by first | decide +kernel | omega | kernel_rfl) ?_); (try decide +kernel)
  refine ⟨_, rfl, by decide +kernel, ?_⟩
  simp -implicitDefEqProofs [go_sem, hal]; (repeat refine And.intro (by first | decide +kernel | omega | kernel_rfl) ?_); (try decide +kernel)
  refine .inl ⟨_, hi, ?_⟩; simp -implicitDefEqProofs [go_sem]; (repeat refine And.intro (by first | decide +kernel | omega | kernel_rfl) ?_); (try decide +kernel)
  refine loop_rule [.arrB 52 0 72 4] (fun (i : Nat) => ⟨41, [(0, .yd), (1, .pr 20 0 0 0), (2, .pr 21 0 0 0), (4, .pr 96 0 0 0), (6, intP .i64 (i : Int))],
      [(96, .box (mbx (nm (pwQ A n i)))), (56, .box [.d (.v (.int .i64 (i : Int)))]), (52, .box [.sr 112 (i - 1)]), (112, .arr ⟨72, 4, i - 1, false, qes (trs A n (i - 1))⟩), (20, .box (mbx M)), (21, .box [.d (.v (.int .i64 (k : Int)))]), (0, .box (mbx m))], 1000⟩)
    (fun i => i ≤ k) (fun i => k - i) 0 (Nat.zero_le _) (by simp) (by simp -implicitDefEqProofs [go_sem, mbx, trs, qes]) (fun i hi => ?_)
  have s1 := hpw i (by omega)
  have hfi := s1.fine
  have hno := normm_p (nm (pwQ A n i)) s1.g.d s1.g.g hfi.2.2.1
  rw [valM_nm] at hno
  have htr := trace_p (nm (pwQ A n i)) s1.g (by rw [nm_len, s1.l]; exact s1.n0) (by rw [nm_len, nm_cols, s1.l, s1.c]) (by decide)
  rw [valM_nm, nm_len, s1.l] at htr
  have hmu := (s1.mul hs (by decide)).1
  rw [pw_mul, ← hM] at hmu
  have hik : (i : Int) ≤ (k : Int) := by omega
  by_cases h1 : i = 0
  · subst h1
    generalize hP : pwQ A n 0 = P at *
    generalize hP1 : pwQ A n (0 + 1) = P1 at *
    by_cases h2 : k = 0
    · subst h2
      simp -implicitDefEqProofs [go_sem, hik, mbx, hP]; (repeat refine And.intro (by first | decide +kernel | omega | kernel_rfl) ?_); (try decide +kernel)
      refine .inl ⟨_, hno, ?_⟩; simp -implicitDefEqProofs [go_sem]; (repeat refine And.intro (by first | decide +kernel | omega | kernel_rfl) ?_); (try decide +kernel)
    · have h2z : ¬ (0 : Int) = (k : Int) := by omega
      simp -implicitDefEqProofs [go_sem, hik, mbx, hP]; (repeat refine And.intro (by first | decide +kernel | omega | kernel_rfl) ?_); (try decide +kernel)
      refine .inl ⟨_, hno, ?_⟩; simp -implicitDefEqProofs [go_sem, h2, h2z]; (repeat refine And.intro (by first | decide +kernel | omega | kernel_rfl) ?_); (try decide +kernel)
      refine .inl ⟨_, hmu, ?_⟩; simp -implicitDefEqProofs [go_sem, h2, h2z]; (repeat refine And.intro (by first | decide +kernel | omega | kernel_rfl) ?_); (try decide +kernel)
      refine ⟨1, by omega, by omega, ?_⟩
      have hP2 : pwQ A n 1 = P1 := hP1
      simp [hP2]
  · have h1z : (1 : Int) < (i : Int) + 1 := by omega
    have hsn := trs_snoc A n (i - 1)
    have hln := trs_len A n (i - 1)
    rw [Nat.sub_add_cancel (by omega)] at hsn
    generalize hP : pwQ A n i = P at *
    generalize hP1 : pwQ A n (i + 1) = P1 at *
    by_cases h2 : i = k
    · subst h2
      simp -implicitDefEqProofs [go_sem, mbx, hP]; (repeat refine And.intro (by first | decide +kernel | omega | kernel_rfl) ?_); (try decide +kernel)
      refine .inl ⟨_, hno, ?_⟩; simp -implicitDefEqProofs [go_sem, h1z]; (repeat refine And.intro (by first | decide +kernel | omega | kernel_rfl) ?_); (try decide +kernel)
      refine .inl ⟨_, htr, ?_⟩; simp -implicitDefEqProofs [go_sem, h1z]; (repeat refine And.intro (by first | decide +kernel | omega | kernel_rfl) ?_); (try decide +kernel)
      exact hsn
    · have h2z : ¬ (i : Int) = (k : Int) := by omega
      simp -implicitDefEqProofs [go_sem, hik, mbx, hP]; (repeat refine And.intro (by first | decide +kernel | omega | kernel_rfl) ?_); (try decide +kernel)
      refine .inl ⟨_, hno, ?_⟩; simp -implicitDefEqProofs [go_sem, h1z, h2, h2z]; (repeat refine And.intro (by first | decide +kernel | omega | kernel_rfl) ?_); (try decide +kernel)
      refine .inl ⟨_, htr, ?_⟩; simp -implicitDefEqProofs [go_sem, h1z, h2, h2z]; (repeat refine And.intro (by first | decide +kernel | omega | kernel_rfl) ?_); (try decide +kernel)
      refine .inl ⟨_, hmu, ?_⟩; simp -implicitDefEqProofs [go_sem, h1z, h2, h2z]; (repeat refine And.intro (by first | decide +kernel | omega | kernel_rfl) ?_); (try decide +kernel)
      refine ⟨i + 1, by omega, by omega, by omega, ?_⟩
      rw [hP1]
      refine ⟨⟨rfl, rfl, rfl⟩, ?_⟩
      refine ⟨by omega, by omega, ?_⟩
      rw [Nat.add_sub_cancel]
      exact hsn
end Go.Mt
/-
  A part of the proof.
-/
set_option linter.unusedSimpArgs false
set_option linter.unusedVariables false
namespace Go.Mt
/-! plain laws: products of tables, traces -/
theorem mul_ent (A B : List (List Rat)) {n i k : Nat} (hi : i < n) (hk : k < n) : entQ (mulQ A B n n n) i k = sumN n fun j => entQ A i j * entQ B j k := entQ_tabQ _ _ _ _ _ hi hk
theorem mul_assocQ (A B C : List (List Rat)) (n : Nat) : mulQ (mulQ A B n n n) C n n n = mulQ A (mulQ B C n n n) n n n := tabQ_congr fun i k hi hk => by
  have e1 : sumN n (fun j => entQ (mulQ A B n n n) i j * entQ C j k) = sumN n fun j => sumN n fun h => entQ A i h * entQ B h j * entQ C j k := sumN_congr fun j hj => by
    rw [mul_ent A B hi hj, sumN_scaler]
  have e2 : sumN n (fun h => entQ A i h * entQ (mulQ B C n n n) h k) = sumN n fun h => sumN n fun j => entQ A i h * entQ B h j * entQ C j k := sumN_congr fun h hh => by
    rw [mul_ent B C hh hk, ← sumN_scale]
    exact sumN_congr fun j _ => (Rat.mul_assoc _ _ _).symm
  rw [e1, e2, sumN_swap]
theorem mul_idr (A : List (List Rat)) {n : Nat} (hl : A.length = n) (hr : ∀ r ∈ A, r.length = n) : mulQ A (identQ n) n n n = A := by
  have e : mulQ A (identQ n) n n n = tabQ (entQ A) n n := tabQ_congr fun i k hi hk => by
    have : sumN n (fun j => entQ A i j * entQ (identQ n) j k) = sumN n fun j => entQ A i j * if j = k then 1 else 0 := sumN_congr fun j hj => by
      unfold identQ; rw [entQ_tabQ _ _ _ _ _ hj hk]
    rw [this]; exact sumN_one n k _ hk
  rw [e]
  have := tabQ_ent A n hr
  rw [hl] at this; exact this
theorem mul_idl (A : List (List Rat)) {n : Nat} (hl : A.length = n) (hr : ∀ r ∈ A, r.length = n) : mulQ (identQ n) A n n n = A := by
  have e : mulQ (identQ n) A n n n = tabQ (entQ A) n n := tabQ_congr fun i k hi hk => by
    have : sumN n (fun j => entQ (identQ n) i j * entQ A j k) = sumN n fun j => (if i = j then 1 else 0) * entQ A j k := sumN_congr fun j hj => by
      unfold identQ; rw [entQ_tabQ _ _ _ _ _ hi hj]
    rw [this]; exact sumN_onel n i (fun j => entQ A j k) hi
  rw [e]
  have := tabQ_ent A n hr
  rw [hl] at this; exact this
theorem tr_comm (A B : List (List Rat)) (n : Nat) : trQ (mulQ A B n n n) n = trQ (mulQ B A n n n) n := by
  unfold trQ
  rw [sumN_congr fun i hi => mul_ent A B hi hi, sumN_congr fun i hi => mul_ent B A hi hi, sumN_swap]
  exact sumN_congr fun j _ => sumN_congr fun i _ => Rat.mul_comm _ _
theorem tab_rws (f : Nat → Nat → Rat) (n : Nat) : (tabQ f n n).length = n ∧ ∀ r ∈ tabQ f n n, r.length = n := ⟨length_tabQ _ _ _, fun r hr => row_tabQ _ _ _ r hr⟩
/-- the powers of what is conjugate -/
theorem pw_conj {A S T : List (List Rat)} {n : Nat} (hA : A.length = n) (hS : mulQ S T n n n = identQ n) (hT : mulQ T S n n n = identQ n) (t : Nat) :
    pwQ (mulQ T (mulQ A S n n n) n n n) n t = mulQ T (mulQ (pwQ A n t) S n n n) n n n := by
  induction t with
  | zero =>
    have e : ∀ B, pwQ B n 0 = identQ n := fun B => rfl
    have e2 : mulQ (identQ n) S n n n = mulQ S (identQ n) n n n := by
      refine tabQ_congr fun i k hi hk => ?_
      have h1 : sumN n (fun j => entQ (identQ n) i j * entQ S j k) = sumN n fun j => (if i = j then 1 else 0) * entQ S j k := sumN_congr fun j hj => by
        unfold identQ; rw [entQ_tabQ _ _ _ _ _ hi hj]
      have h2 : sumN n (fun j => entQ S i j * entQ (identQ n) j k) = sumN n fun j => entQ S i j * if j = k then 1 else 0 := sumN_congr fun j hj => by
        unfold identQ; rw [entQ_tabQ _ _ _ _ _ hj hk]
      rw [h1, h2, sumN_onel n i (fun j => entQ S j k) hi, sumN_one n k _ hk]
    rw [e, e, e2, ← mul_assocQ, hT]
    exact (mul_idl (identQ n) (tab_rws _ n).1 (tab_rws _ n).2).symm
  | succ t ih =>
    rw [← pw_mul, ih, ← pw_mul]
    rw [mul_assocQ, mul_assocQ, ← mul_assocQ S T, hS, mul_idl (mulQ A S n n n) (tab_rws _ n).1 (tab_rws _ n).2, ← mul_assocQ (pwQ A n t) A S]
theorem tr_conj {A S T : List (List Rat)} {n : Nat} (hA : A.length = n) (hS : mulQ S T n n n = identQ n) (hT : mulQ T S n n n = identQ n) (t : Nat) :
    trQ (pwQ (mulQ T (mulQ A S n n n) n n n) n t) n = trQ (pwQ A n t) n := by
  rw [pw_conj hA hS hT, tr_comm, mul_assocQ, hS, mul_idr (pwQ A n t) (length_tabQ _ _ _) (fun r hr => row_tabQ _ _ _ r hr)]
theorem trs_conj {A S T : List (List Rat)} {n : Nat} (hA : A.length = n) (hS : mulQ S T n n n = identQ n) (hT : mulQ T S n n n = identQ n) (k : Nat) :
    trs (mulQ T (mulQ A S n n n) n n n) n k = trs A n k := List.map_congr_left fun t _ => by rw [tr_conj hA hS hT]
/-- one number above the diagonal -/
def elQ (n i k : Nat) (x : Rat) : List (List Rat) := tabQ (fun a b => if a = i ∧ b = k then x else if a = b then 1 else 0) n n
theorem el_mul {n i k : Nat} (hi : i < n) (hk : k < n) (hik : i ≠ k) (x y : Rat) (hxy : x + y = 0) : mulQ (elQ n i k x) (elQ n i k y) n n n = identQ n := tabQ_congr fun a b ha hb => by
  have h1 : ∀ j, j < n → entQ (elQ n i k x) a j * entQ (elQ n i k y) j b = (if a = j then 1 else 0) * entQ (elQ n i k y) j b + (if a = i then x * entQ (elQ n i k y) k b else 0) * (if j = k then 1 else 0) := fun j hj => by
    have e : entQ (elQ n i k x) a j = if a = i ∧ j = k then x else if a = j then 1 else 0 := by unfold elQ; rw [entQ_tabQ _ _ _ _ _ ha hj]
    rw [e]
    by_cases h1 : a = i
    · by_cases h2 : j = k
      · rw [if_pos ⟨h1, h2⟩, if_neg (by omega), if_pos h1, if_pos h2, h2]; grind
      · rw [if_neg (by omega), if_neg h2]; grind
    · rw [if_neg (by omega), if_neg h1]; grind
  rw [sumN_congr h1, sumN_add, sumN_onel n a (fun j => entQ (elQ n i k y) j b) ha, sumN_one n k (fun _ => if a = i then x * entQ (elQ n i k y) k b else 0) hk]
  have e1 : entQ (elQ n i k y) a b = if a = i ∧ b = k then y else if a = b then 1 else 0 := by unfold elQ; rw [entQ_tabQ _ _ _ _ _ ha hb]
  have e2 : entQ (elQ n i k y) k b = if k = b then 1 else 0 := by unfold elQ; rw [entQ_tabQ _ _ _ _ _ hk hb, if_neg (by omega)]
  rw [e1, e2]
  by_cases h1 : a = i
  · rw [if_pos h1]
    by_cases h2 : b = k
    · rw [if_pos ⟨h1, h2⟩, if_pos h2.symm, if_neg (by omega)]; grind
    · have c1 : ¬ (a = i ∧ b = k) := by omega
      have c2 : ¬ k = b := fun h => h2 h.symm
      rw [if_neg c1, if_neg c2]; grind
  · rw [if_neg (by omega), if_neg h1]; grind
end Go.Mt
/-
  A part of the proof.
-/
set_option linter.unusedSimpArgs false
set_option linter.unusedVariables false
namespace Go.Mt
open Go Go.Pm Go.Proofs
def i16s (l : List Int) : List (List D) := l.map fun x => [.v (.int .i16 x)]
@[go_sem] theorem i16s_len (l : List Int) : (i16s l).length = l.length := by simp [i16s]
@[go_sem] theorem i16s_ge {l : List Int} {i : Nat} (h : i < (i16s l).length) : (i16s l)[i] = [.v (.int .i16 (l[i]'(by rw [i16s_len] at h; exact h)))] := by simp [i16s]
def elZ (i k : Nat) (x : Int) : Nat → Nat → Int := fun a b => if a = i ∧ b = k then x else idZ a b
theorem el_sq {n i k : Nat} (h0 : 0 < n) (h1 : n ≤ 1000) {x : Int} (hx : zl x ≤ 1) : Sq n 1 (elQ n i k (x : Rat)) := by
  refine ⟨h0, h1, length_tabQ _ _ _, colsOf_tab _ h0, ?_⟩
  obtain ⟨g1, g2, g3⟩ := grw_tab (K := 1) (f := elZ i k x) (r := n) (c := n) (by decide) (by omega) (by omega) (fun a b _ _ => by
    unfold elZ; split
    · exact hx
    · unfold idZ; split <;> decide)
  have h := nm_bound (D := 1) (by decide) g2 g1 (by decide) (by decide) g3
  have e : fracs 1 (tableZ (elZ i k x) n n) = elQ n i k (x : Rat) := by
    rw [fracs_table]
    refine tabQ_congr fun a b _ _ => ?_
    rw [ratv_1]; unfold elZ
    split
    · rfl
    · unfold idZ; split <;> rfl
  rw [zz_tab, e] at h
  exact h
theorem Sq.from {n K : Nat} {A : List (List Rat)} (h : Sq n K A) (hK : K < 8589934592) (hr : ∀ r ∈ A, r.length = n) : PCall Tryz.prog 63 [.d (.sl (qrs A))] (.one (.d (md (nm A)))) := by
  have e : valM (nm A) = A := valM_nm A
  have hn := h.n1
  refine from11_p A (fun q hq => ?_) (by have := h.l; omega) ?_ ?_
  · have := valM_ql h.g q (by rw [e]; exact hq)
    omega
  · have := flat_w (w := n) (V := A) (fun r hr2 => by have := hr r hr2; omega)
    have h2 : A.length * n ≤ 1000 * 1000 := Nat.mul_le_mul (by have := h.l; omega) hn
    omega
  · have := valM_dK h.g
    rw [e] at this; omega
/-- a matrix and its inverse, so far -/
structure Iq (n c : Nat) (S T : List (List Rat)) : Prop where
  s : Sq n (3 * c + 1) S
  t : Sq n (3 * c + 1) T
  st : mulQ S T n n n = identQ n
  ts : mulQ T S n n n = identQ n
  sr : ∀ r ∈ S, r.length = n
  tr : ∀ r ∈ T, r.length = n
theorem Iq.id {n : Nat} (h0 : 0 < n) (h1 : n ≤ 1000) : Iq n 0 (identQ n) (identQ n) := by
  have e := mul_idl (identQ n) (tab_rws _ n).1 (tab_rws _ n).2
  exact ⟨.id h0 h1, .id h0 h1, e, e, (tab_rws _ n).2, (tab_rws _ n).2⟩
theorem Iq.step {n c i k : Nat} {S T : List (List Rat)} (h : Iq n c S T) (hc : c < 100000) (hi : i < n) (hk : k < n) (hik : i ≠ k) {x : Int} (hx : zl x ≤ 1) :
    PCall Tryz.prog 47 [.d (md (nm S)), .d (md (nm (elQ n i k (x : Rat))))] (.one (.d (md (nm (mulQ S (elQ n i k (x : Rat)) n n n))))) ∧
    PCall Tryz.prog 47 [.d (md (nm (elQ n i k ((-x : Int) : Rat)))), .d (md (nm T))] (.one (.d (md (nm (mulQ (elQ n i k ((-x : Int) : Rat)) T n n n))))) ∧
    Iq n (c + 1) (mulQ S (elQ n i k (x : Rat)) n n n) (mulQ (elQ n i k ((-x : Int) : Rat)) T n n n) := by
  have e1 := el_sq (n := n) (i := i) (k := k) h.s.n0 h.s.n1 hx
  have e2 := el_sq (n := n) (i := i) (k := k) h.s.n0 h.s.n1 (x := -x) (by rw [zl_neg]; exact hx)
  have hx1 : (x : Rat) + ((-x : Int) : Rat) = 0 := by rw [← Rat.intCast_add]; have : x + -x = 0 := by omega
                                                      rw [this]; rfl
  have hx2 : ((-x : Int) : Rat) + (x : Rat) = 0 := by rw [Rat.add_comm]; exact hx1
  have p1 := mul_sq (K := 3 * c + 1) h.s (e1.mono (by omega)) (by omega)
  have p2 := mul_sq (K := 3 * c + 1) (e2.mono (by omega)) h.t (by omega)
  have s1 := (h.s.mul e1 (by omega)).2
  have s2 := (e2.mul h.t (by omega)).2
  refine ⟨p1, p2, s1.mono (by omega), s2.mono (by omega), ?_, ?_, (tab_rws _ n).2, (tab_rws _ n).2⟩
  · rw [mul_assocQ, ← mul_assocQ (elQ n i k (x : Rat)), el_mul hi hk hik _ _ hx1, mul_idl T h.t.l h.tr, h.st]
  · rw [mul_assocQ, ← mul_assocQ T, h.ts, mul_idl (elQ n i k (x : Rat)) (tab_rws _ n).1 (tab_rws _ n).2, el_mul hi hk hik _ _ hx2]
/-- what a turn says -/
def td (K : Int) (l : List Int) : D := .agg [.v (.int .i64 K), .sl (i16s l)]
attribute [go_sem] td
/-- how many numbers were used, the matrix and its inverse -/
abbrev Ms := Nat × List (List Rat) × List (List Rat)
def mstep (l : List Int) (n i k : Nat) (s : Ms) : Ms := match l[s.1]? with
  | some x => (s.1 + 1, mulQ s.2.1 (elQ n i k (x : Rat)) n n n, mulQ (elQ n i k ((-x : Int) : Rat)) s.2.2 n n n)
  | none => s
def mrow (l : List Int) (n i : Nat) : Nat → Ms → Ms
  | 0, s => s
  | j + 1, s => mstep l n i (i + 1 + j) (mrow l n i j s)
def mall (l : List Int) (n : Nat) : Nat → Ms
  | 0 => (0, identQ n, identQ n)
  | i + 1 => mrow l n i (n - (i + 1)) (mall l n i)
def Mi (n : Nat) (s : Ms) : Prop := Iq n s.1 s.2.1 s.2.2
theorem mstep_some {l : List Int} {n i k : Nat} {s : Ms} (h : s.1 < l.length) : mstep l n i k s = (s.1 + 1, mulQ s.2.1 (elQ n i k (l[s.1] : Rat)) n n n, mulQ (elQ n i k ((-l[s.1] : Int) : Rat)) s.2.2 n n n) := by
  unfold mstep; rw [List.getElem?_eq_getElem h]
theorem mstep_none {l : List Int} {n i k : Nat} {s : Ms} (h : ¬ s.1 < l.length) : mstep l n i k s = s := by
  unfold mstep; rw [List.getElem?_eq_none (by omega)]
theorem mrow_stop {l : List Int} {n i j : Nat} {s : Ms} (h : ¬ (mrow l n i j s).1 < l.length) (m : Nat) : mrow l n i (j + m) s = mrow l n i j s := by
  induction m with
  | zero => rfl
  | succ m ih =>
    show mstep l n i _ (mrow l n i (j + m) s) = _
    rw [ih, mstep_none h]
theorem mrow_le (l : List Int) (n i j : Nat) (s : Ms) : (mrow l n i j s).1 ≤ s.1 + j := by
  induction j with
  | zero => exact Nat.le_refl _
  | succ j ih =>
    show (mstep l n i _ (mrow l n i j s)).1 ≤ _
    by_cases h : (mrow l n i j s).1 < l.length
    · rw [mstep_some h]; show _ + 1 ≤ _; omega
    · rw [mstep_none h]; omega
theorem mall_le (l : List Int) (n i : Nat) (hi : i ≤ n) : (mall l n i).1 ≤ i * n := by
  induction i with
  | zero => exact Nat.zero_le _
  | succ i ih =>
    have h1 := mrow_le l n i (n - (i + 1)) (mall l n i)
    have h2 := ih (by omega)
    show (mrow l n i (n - (i + 1)) (mall l n i)).1 ≤ _
    rw [Nat.succ_mul]; omega
theorem zl_i16 {x : Int} (h : -32768 ≤ x ∧ x ≤ 32767) : zl x ≤ 1 := by
  unfold zl
  exact nl_le_of_lt (by
    show x.natAbs < 4294967296 ^ 1
    rw [Nat.pow_one]
    omega)
theorem Mi.row {l : List Int} (hl : ∀ x ∈ l, -32768 ≤ x ∧ x ≤ 32767) {n i j : Nat} {s : Ms} (h : Mi n s) (hs : s.1 + j < 100000) (hj : i + 1 + j ≤ n) : Mi n (mrow l n i j s) := by
  induction j with
  | zero => exact h
  | succ j ih =>
    have h1 := ih (by omega) (by omega)
    have h2 := mrow_le l n i j s
    show Mi n (mstep l n i _ (mrow l n i j s))
    by_cases h3 : (mrow l n i j s).1 < l.length
    · rw [mstep_some h3]
      exact (Iq.step h1 (by omega) (show i < n by omega) (show i + 1 + j < n by omega) (by omega) (zl_i16 (hl _ (List.getElem_mem h3)))).2.2
    · rw [mstep_none h3]; exact h1
theorem Mi.all {l : List Int} (hl : ∀ x ∈ l, -32768 ≤ x ∧ x ≤ 32767) {n : Nat} (hn0 : 0 < n) (hn : n ≤ 24) (i : Nat) (hi : i ≤ n) : Mi n (mall l n i) := by
  induction i with
  | zero => exact Iq.id hn0 (by omega)
  | succ i ih =>
    have h1 := mall_le l n i (by omega)
    have h2 : i * n ≤ 24 * 24 := Nat.mul_le_mul (by omega) hn
    exact (ih (by omega)).row hl (by omega) (by omega)
set_option maxRecDepth 100000 in
set_option maxHeartbeats 4000000 in
theorem matrix_p (K : Int) (l : List Int) (hl : ∀ x ∈ l, -32768 ≤ x ∧ x ≤ 32767) (hln : l.length < 1048577) (n : Nat) (hn0 : 0 < n) (hn : n ≤ 24) :
    PCall Tryz.prog 82 [.d (td K l), .d (.v (.int .i64 (n : Int)))] (.tup [.d (md (nm (mall l n n).2.1)), .d (md (nm (mall l n n).2.2)), .d (.v (.bool (decide (l.length ≤ 30))))]) := by
  have hi := ident11_p n (by omega)
  have hM := fun i hi => Mi.all hl hn0 hn i hi
  have hle := fun i hi => mall_le l n i hi
  have h0 : mall l n 0 = (0, identQ n, identQ n) := rfl
  refine pcall_of hmo Tryz.func82 rfl (by kernel_rfl) (by simp [Tryz.ntmps82]) ?_; simp -implicitDefEqProofs [go_sem, Tryz.ntmps82]; (repeat refine And.intro (by first | decide +kernel | omega | kernel_rfl) ?_); (try decide +kernel)
  refine .inl ⟨_, hi, ?_⟩; simp -implicitDefEqProofs [go_sem]; (repeat refine And.intro (by first | decide +kernel | omega | kernel_rfl) ?_); (try decide +kernel)
  refine .inl ⟨_, hi, ?_⟩; simp -implicitDefEqProofs [go_sem]; (repeat refine And.intro (by first | decide +kernel | omega | kernel_rfl) ?_); (try decide +kernel)
  refine loop_rule [] (fun (i : Nat) => ⟨86, [(1, intP .i64 (n : Int)), (2, .pr 0 0 0 0), (4, .pr 4 0 0 0), (5, .pr 8 0 0 0), (6, .d (.v (.bool false))), (7, .pr 24 0 0 0), (8, .pr 40 0 0 0), (9, intP .i64 ((mall l n i).1 : Int)), (18, intP .i64 (n : Int)), (19, intP .i64 (i : Int))],
      [(40, .box (mbx (nm (mall l n i).2.2))), (24, .box (mbx (nm (mall l n i).2.1))), (8, .box [.d (.v (.bool false)), .nl, .nl]), (4, .box [.d (.v (.bool false)), .nl, .nl]), (0, .box [.d (.v (.int .i64 K)), .d (.sl (i16s l))])], 1000⟩)
    (fun i => i ≤ n) (fun i => n - i) 0 (Nat.zero_le _) (by simp) (by simp -implicitDefEqProofs [go_sem, mbx, h0]) (fun i hi2 => ?_)
  by_cases hil : i < n
  · have hMi := hM i hi2
    have hlei := hle i hi2
    have hin : i * n ≤ 24 * 24 := Nat.mul_le_mul (by omega) hn
    have hms : mall l n (i + 1) = mrow l n i (n - (i + 1)) (mall l n i) := rfl
    generalize hs0 : mall l n i = s0 at *
    have hr0 : mrow l n i 0 s0 = s0 := rfl
    simp -implicitDefEqProofs [go_sem, mbx, hil, hs0]; (repeat refine And.intro (by first | decide +kernel | omega | kernel_rfl) ?_); (try decide +kernel)
    refine loop_rule [] (fun (j : Nat) => ⟨86, [(1, intP .i64 (n : Int)), (2, .pr 0 0 0 0), (4, .pr 4 0 0 0), (5, .pr 8 0 0 0), (6, .d (.v (.bool false))), (7, .pr 24 0 0 0), (8, .pr 40 0 0 0), (9, intP .i64 ((mrow l n i j s0).1 : Int)), (10, intP .i64 (i : Int)), (11, intP .i64 ((i : Int) + 1 + (j : Int))), (18, intP .i64 (n : Int)), (19, intP .i64 (i : Int))],
        [(40, .box (mbx (nm (mrow l n i j s0).2.2))), (24, .box (mbx (nm (mrow l n i j s0).2.1))), (8, .box [.d (.v (.bool false)), .nl, .nl]), (4, .box [.d (.v (.bool false)), .nl, .nl]), (0, .box [.d (.v (.int .i64 K)), .d (.sl (i16s l))])], 2000⟩)
      (fun j => i + 1 + j ≤ n) (fun j => n - j) 0 (by omega) (by simp) (by simp -implicitDefEqProofs [go_sem, mbx, hr0]) (fun j hj => ?_)
    have hMj := hMi.row hl (i := i) (j := j) (by omega) hj
    have hlej := mrow_le l n i j s0
    have hmst : mrow l n i (j + 1) s0 = mstep l n i (i + 1 + j) (mrow l n i j s0) := rfl
    have hstop : ¬ (mrow l n i j s0).1 < l.length → mall l n (i + 1) = mrow l n i j s0 := fun h => by
      have := mrow_stop h (n - (i + 1) - j)
      rw [hms, ← this]
      congr 1; omega
    have hend : i + 1 + j = n → mall l n (i + 1) = mrow l n i j s0 := fun h => by rw [hms]; congr 1; omega
    generalize hs1 : mrow l n i j s0 = s1 at *
    by_cases hjn : i + 1 + j < n
    · have hjz : (i : Int) + 1 + (j : Int) < (n : Int) := by omega
      by_cases ha : s1.1 < l.length
      · have hb := hl _ (List.getElem_mem ha)
        obtain ⟨p1, p2, hq⟩ := Iq.step hMj (by omega) (show i < n by omega) hjn (by omega) (zl_i16 hb)
        rw [mstep_some ha] at hmst
        have hsi := Sq.id hMj.s.n0 hMj.s.n1
        have hrw := rows11_t (nm (identQ n)) (gl_nm hsi.g (by decide))
        rw [valM_nm] at hrw
        obtain ⟨idf, hidf⟩ : ∃ idf : Nat → Nat → Rat, idf = fun a b => if a = b then 1 else 0 := ⟨_, rfl⟩
        have eI : identQ n = tabQ idf n n := by rw [hidf]; rfl
        have eEl : ∀ y : Rat, tabQ (upd2 idf i (i + 1 + j) y) n n = elQ n i (i + 1 + j) y := fun y => by rw [hidf]; rfl
        have hlI : (tqs (identQ n)).length = n := by rw [tqs_len]; exact length_tabQ _ _ _
        have hrg : (List.range n)[i]? = some i := List.getElem?_range hil
        have hrow := tabR_get idf (c := n) hil
        have hER := elemR_t hrg hrow
        have hRA := rowAt_t hrow
        have hTl := trow_len idf n i
        have hcell := trow_get idf (i := i) hjn
        have hcell2 : ∀ h : i + 1 + j < (trow idf n i).length, (trow idf n i)[i + 1 + j]'h = qel (nq (idf i (i + 1 + j))) := fun h => (List.getElem_eq_iff (h := h)).2 hcell
        have hset := fun y => tabR_set idf hil hjn y
        simp only [eEl, qel] at hset
        have hkt : ((i : Int) + 1 + (j : Int)).toNat = i + 1 + j := by omega
        have o1 := of5_p (l[s1.1]'ha) (by omega) (by omega)
        have o2 := of5_p (-l[s1.1]'ha) (by omega) (by omega)
        have f1 := (el_sq (n := n) (i := i) (k := i + 1 + j) hMj.s.n0 hMj.s.n1 (zl_i16 hb)).from (by decide) (tab_rws _ n).2
        have f2 := (el_sq (n := n) (i := i) (k := i + 1 + j) hMj.s.n0 hMj.s.n1 (x := -l[s1.1]'ha) (by rw [zl_neg]; exact zl_i16 hb)).from (by decide) (tab_rws _ n).2
        have hsl := fun el rel k ver fz out y => sl_tqs (el := el) (rel := rel) (k := k) (ver := ver) (fz := fz) (out := out) (V := elQ n i (i + 1 + j) y) (n := n) (length_tabQ _ _ _)
        have hwr : IntKind.i64.wrap (l[s1.1]'ha) = l[s1.1]'ha := by rw [IntKind.wrap_i64]; omega
        have hset1 := hset ((l[s1.1]'ha : Int) : Rat)
        have hset2 := hset ((-l[s1.1]'ha : Int) : Rat)
        clear hset
        rw [eI] at hrw hlI hi
        generalize hx1 : nq ((l[s1.1]'ha : Int) : Rat) = X1 at *
        generalize hx2 : nq ((-l[s1.1]'ha : Int) : Rat) = X2 at *
        simp -implicitDefEqProofs [go_sem, mbx, hjz, hs1, ha]; (repeat refine And.intro (by first | decide +kernel | omega | kernel_rfl) ?_); (try decide +kernel)
        refine .inl ⟨_, hi, ?_⟩; simp -implicitDefEqProofs [go_sem, mbx, hjz, hs1, ha]; (repeat refine And.intro (by first | decide +kernel | omega | kernel_rfl) ?_); (try decide +kernel)
        refine .inl ⟨_, hrw, ?_⟩; simp -implicitDefEqProofs [go_sem, mbx, hjz, hs1, ha, hlI]; (repeat refine And.intro (by first | decide +kernel | omega | kernel_rfl) ?_); (try decide +kernel)
        refine .inl ⟨_, hi, ?_⟩; simp -implicitDefEqProofs [go_sem, mbx, hjz, hs1, ha, hlI]; (repeat refine And.intro (by first | decide +kernel | omega | kernel_rfl) ?_); (try decide +kernel)
        refine .inl ⟨_, hrw, ?_⟩; simp -implicitDefEqProofs [go_sem, mbx, hjz, hs1, ha, hlI, hER, hRA, hTl, hcell, hcell2, hset1, hset2, hkt, hil, hjn, hsl, hwr]; (repeat refine And.intro (by first | decide +kernel | omega | kernel_rfl) ?_); (try decide +kernel)
        refine .inl ⟨_, o1, ?_⟩; simp -implicitDefEqProofs [go_sem, mbx, hjz, hs1, ha, hlI, hER, hRA, hTl, hcell, hcell2, hset1, hset2, hkt, hil, hjn, hsl, hwr]; (repeat refine And.intro (by first | decide +kernel | omega | kernel_rfl) ?_); (try decide +kernel)
        refine .inl ⟨_, o2, ?_⟩; simp -implicitDefEqProofs [go_sem, mbx, hjz, hs1, ha, hlI, hER, hRA, hTl, hcell, hcell2, hset1, hset2, hkt, hil, hjn, hsl, hwr]; (repeat refine And.intro (by first | decide +kernel | omega | kernel_rfl) ?_); (try decide +kernel)
        refine .inl ⟨_, f1, ?_⟩; simp -implicitDefEqProofs [go_sem, mbx, hjz, hs1, ha, hlI, hER, hRA, hTl, hcell, hcell2, hset1, hset2, hkt, hil, hjn, hsl, hwr]; (repeat refine And.intro (by first | decide +kernel | omega | kernel_rfl) ?_); (try decide +kernel)
        refine .inl ⟨_, p1, ?_⟩; simp -implicitDefEqProofs [go_sem, mbx, hjz, hs1, ha, hlI, hER, hRA, hTl, hcell, hcell2, hset1, hset2, hkt, hil, hjn, hsl, hwr]; (repeat refine And.intro (by first | decide +kernel | omega | kernel_rfl) ?_); (try decide +kernel)
        refine .inl ⟨_, f2, ?_⟩; simp -implicitDefEqProofs [go_sem, mbx, hjz, hs1, ha, hlI, hER, hRA, hTl, hcell, hcell2, hset1, hset2, hkt, hil, hjn, hsl, hwr]; (repeat refine And.intro (by first | decide +kernel | omega | kernel_rfl) ?_); (try decide +kernel)
        refine .inl ⟨_, p2, ?_⟩; simp -implicitDefEqProofs [go_sem, mbx, hjz, hs1, ha, hlI, hER, hRA, hTl, hcell, hcell2, hset1, hset2, hkt, hil, hjn, hsl, hwr]; (repeat refine And.intro (by first | decide +kernel | omega | kernel_rfl) ?_); (try decide +kernel)
        refine ⟨j + 1, by omega, by omega, ?_⟩
        rw [hmst]
        simp
        omega
      · have hfin := hstop ha
        simp -implicitDefEqProofs [go_sem, mbx, hjz, hs1, ha]; (repeat refine And.intro (by first | decide +kernel | omega | kernel_rfl) ?_); (try decide +kernel)
        refine ⟨i + 1, ?_⟩; (repeat' apply And.intro) <;> first | omega | (exact (by rw [hfin])) | assumption | rfl
    · have hfin := hend (by omega)
      have hjz : ¬ (i : Int) + 1 + (j : Int) < (n : Int) := by omega
      simp -implicitDefEqProofs [go_sem, mbx, hjz, hs1]; (repeat refine And.intro (by first | decide +kernel | omega | kernel_rfl) ?_); (try decide +kernel)
      refine ⟨i + 1, ?_⟩; (repeat' apply And.intro) <;> first | omega | (exact (by rw [hfin])) | assumption | rfl
  · obtain rfl : i = n := by omega
    generalize mall l i i = s at *
    by_cases h30 : l.length ≤ 30
    · have hz : (l.length : Int) ≤ 30 := by omega
      simp -implicitDefEqProofs [go_sem, mbx, hz, h30]; (repeat refine And.intro (by first | decide +kernel | omega | kernel_rfl) ?_); (try decide +kernel)
    · have hz : ¬ (l.length : Int) ≤ 30 := by omega
      simp -implicitDefEqProofs [go_sem, mbx, hz, h30]; (repeat refine And.intro (by first | decide +kernel | omega | kernel_rfl) ?_); (try decide +kernel)
end Go.Mt
/-
  A part of the proof.
-/
set_option linter.unusedSimpArgs false
set_option linter.unusedVariables false
namespace Go.Mt
open Go Go.Pm Go.Proofs
set_option maxHeartbeats 1000000 in
theorem nought14_p (m : MR) (hm : Gl m) (hv : ∀ r ∈ valM m, ∀ q ∈ r, q = 0) : PCall Tryz.prog 85 [.d (md m)] (.one (.d (.v (.bool true)))) := by
  have hr := (rows11_t m hm).sto_d
  rw [tqs_d] at hr
  have hs := sign5_n 0 (by decide)
  have hs : PCall Tryz.prog 93 [.d (qd (nq 0))] (.one (.d (.v (.int .i64 0)))) := hs
  have hvl := valM_len m
  have hnr := hm.g.nr
  have hrl : ∀ r ∈ valM m, r.length < 549755813888 := fun r hr => by
    rw [valM_rows] at hr
    obtain ⟨r0, h1, rfl⟩ := List.mem_map.1 hr
    rw [valR_len]; exact hm.g.nc r0 h1
  generalize valM m = V at *
  refine pcall_of hmo Tryz.func85 rfl (by kernel_rfl) (by simp [Tryz.ntmps85]) ?_; simp -implicitDefEqProofs [go_sem, Tryz.ntmps85]; (repeat refine And.intro (by first | decide +kernel | omega | kernel_rfl) ?_); (try decide +kernel)
  refine .inl ⟨_, hr, ?_⟩; simp -implicitDefEqProofs [go_sem]; (repeat refine And.intro (by first | decide +kernel | omega | kernel_rfl) ?_); (try decide +kernel)
  refine loop_rule [] (fun (i : Nat) => ⟨25, [(2, .d (.v (.bool false))), (8, .d (.sl (qrs V))), (9, intP .i64 (V.length : Int)), (10, intP .i64 (i : Int))], [], 1000⟩)
    (fun i => i ≤ V.length) (fun i => V.length - i) 0 (Nat.zero_le _) (by simp) (by simp -implicitDefEqProofs [go_sem]) (fun i hi => ?_)
  by_cases hil : i < V.length
  · have hl := hrl _ (List.getElem_mem hil)
    have hz := hv _ (List.getElem_mem hil)
    obtain ⟨R, hR⟩ : ∃ R, R = V[i] := ⟨_, rfl⟩
    rw [← hR] at hl hz
    have hR2 : V[i] = R := hR.symm
    clear hR
    simp -implicitDefEqProofs [go_sem, hil, hR2]; (repeat refine And.intro (by first | decide +kernel | omega | kernel_rfl) ?_); (try decide +kernel)
    refine loop_rule [] (fun (k : Nat) => ⟨25, [(2, .d (.v (.bool false))), (8, .d (.sl (qrs V))), (9, intP .i64 (V.length : Int)), (10, intP .i64 (i : Int)), (14, .d (.sl (qes (R.map nq)))), (15, intP .i64 (R.length : Int)), (16, intP .i64 (k : Int))], [], 2000⟩)
      (fun k => k ≤ R.length) (fun k => R.length - k) 0 (Nat.zero_le _) (by simp) (by simp -implicitDefEqProofs [go_sem]) (fun k hk => ?_)
    by_cases hkl : k < R.length
    · have h0 := hz _ (List.getElem_mem hkl)
      have hs2 : PCall Tryz.prog 93 [.d (qd (nq R[k]))] (.one (.d (.v (.int .i64 0)))) := by rw [h0]; exact hs
      simp -implicitDefEqProofs [go_sem, hkl]; (repeat refine And.intro (by first | decide +kernel | omega | kernel_rfl) ?_); (try decide +kernel)
      refine .inl ⟨_, hs2, ?_⟩; simp -implicitDefEqProofs [go_sem, hkl]; (repeat refine And.intro (by first | decide +kernel | omega | kernel_rfl) ?_); (try decide +kernel)
      refine ⟨k + 1, ?_⟩; (repeat' apply And.intro) <;> first | omega | assumption | rfl
    · obtain rfl : k = R.length := by omega
      simp -implicitDefEqProofs [go_sem]; (repeat refine And.intro (by first | decide +kernel | omega | kernel_rfl) ?_); (try decide +kernel)
      refine ⟨i + 1, ?_⟩; (repeat' apply And.intro) <;> first | omega | assumption | rfl
  · obtain rfl : i = V.length := by omega
    simp -implicitDefEqProofs [go_sem]; (repeat refine And.intro (by first | decide +kernel | omega | kernel_rfl) ?_); (try decide +kernel)
theorem cnt_le (l : List Rat) : cnt l ≤ l.length := List.length_filter_le _ _
/-- what fits came in -/
theorem im_nm {n K : Nat} {C : List (List Rat)} (h : Sq n K C) (hr : ∀ r ∈ C, r.length = n) (hn : n ≤ 24) (h0 : fitE (nm C) = 0) : Im (nm C) := by
  obtain ⟨c1, c2, c3, c4, c5⟩ := fit_zero h0
  rw [valM_nm] at c5
  have hq : ∀ q ∈ C.flatten, ql q ≤ 128 := fun q hq => ql_of_qh (Nat.le_trans (qhs_mem hq) (by omega))
  have hden : ∀ q ∈ C.flatten, nl q.den ≤ 128 := fun q h => by
    have h1 := hq q h
    have h2 := ql_den q
    rw [zl_nat] at h2; omega
  have hfl := flat_w (w := n) (V := C) (fun r hr2 => by have := hr r hr2; omega)
  have hfl2 : C.length * n ≤ 24 * 24 := Nat.mul_le_mul (by have := h.l; omega) hn
  have hD : nl (nrmD C) ≤ 1 + 128 * cnt C.flatten := comDen_cnt _ hden
  have hcl := cnt_le C.flatten
  have hl := h.l
  have hrl : ∀ r ∈ (nm C).2, r.length = n := fun r hr2 => by
    obtain ⟨zs, h1, rfl⟩ := List.mem_map.1 hr2
    obtain ⟨r0, h3, rfl⟩ := List.mem_map.1 h1
    rw [List.length_map, List.length_map]; exact hr r0 h3
  have hnl : (nm C).2.length = n := by rw [nm_len, h.l]
  have hfm := flat_w (w := n) (V := (nm C).2) (fun r hr2 => by have := hrl r hr2; omega)
  have hfm2 : (nm C).2.length * n ≤ 24 * 24 := Nat.mul_le_mul (by omega) hn
  refine ⟨h.g.d, ?_, fun r hr2 z hz => ⟨h.g.g.rz r hr2 z hz, ?_⟩, by omega, fun r hr2 => by have := hrl r hr2; omega, by omega⟩
  · show (nrm _).2.length < _
    rw [rz_len, zl_nat]; omega
  · obtain ⟨zs, h1, rfl⟩ := List.mem_map.1 hr2
    obtain ⟨z0, h2, rfl⟩ := List.mem_map.1 hz
    obtain ⟨r0, h3, rfl⟩ := List.mem_map.1 h1
    obtain ⟨q, h4, rfl⟩ := List.mem_map.1 h2
    have h5 := hq q (List.mem_flatten.2 ⟨r0, h3, h4⟩)
    have h6 := nl_comNum (K := 128) (KL := 80000) (D := nrmD C) (q := q) (by have := ql_num q; unfold zl at this; omega) (by omega)
    rw [rz_len]; unfold zl; omega
theorem at_comm (f : List QR) {m : MR} (h0 : fitE m = 0) : mulQ (atQ f m) (valM m) m.2.length m.2.length m.2.length = mulQ (valM m) (atQ f m) m.2.length m.2.length m.2.length := by
  have h1 := at_mul f [nq 0, nq 1] m
  have h2 := at_mul2 f [nq 0, nq 1] m
  rw [at_var m (Im.vrow h0)] at h1 h2
  exact h1.symm.trans h2
theorem bracket_zero (f : List QR) {m : MR} (h0 : fitE m = 0) : bracketQ (atQ f m) (valM m) m.2.length = zeroQ m.2.length m.2.length := by
  unfold bracketQ
  rw [at_comm f h0]
  refine tabQ_congr fun i k _ _ => ?_
  grind
end Go.Mt
/-
  A part of the proof.
-/
set_option linter.unusedSimpArgs false
set_option linter.unusedVariables false
namespace Go.Mt
open Go Go.Pm Go.Proofs
theorem tr_ql {n K : Nat} {P : List (List Rat)} (h : Sq n K P) : ql (trQ P n) ≤ K + 2 := by
  have l1 : (nm P).2.length = n := by rw [nm_len, h.l]
  have w1 : colsOf (nm P).2 = n := by rw [nm_cols, h.c]
  have hb : zl (trZ (nm P) n) ≤ K + 2 := zl_sumZ (fun i hi => by
    obtain ⟨_, _, e1, h1⟩ := h.g.ent (i := i) (k := i) (by omega) (by omega)
    rw [e1]; exact h1) (by have := h.n1; omega)
  have e := tr_val (nm P) n h.g.ne
  rw [valM_nm] at e
  rw [← e]
  have := ql_ratv (trZ (nm P) n) _ h.g.ne
  have := h.g.kd
  omega
theorem trs_same {n K k : Nat} {A : List (List Rat)} (h : ∀ t, t ≤ k → Sq n K (pwQ A n t)) (hK : K < 1000000000) (hk : k < 1000000) : PCall Tryz.prog 41 [.d (.sl (qes (trs A n k))), .d (.sl (qes (trs A n k)))] (.one (.d (.v (.bool true)))) := by
  have hl : ∀ p ∈ trs A n k, p.1.2.length < 1099511627776 ∧ p.2.2.length < 1099511627776 := fun p hp => by
    obtain ⟨t, ht, rfl⟩ := List.mem_map.1 hp
    have h1 := tr_ql (h (t + 1) (by have := List.mem_range.1 ht; omega))
    have h2 := ql_num (trQ (pwQ A n (t + 1)) n)
    have h3 := ql_den (trQ (pwQ A n (t + 1)) n)
    exact ⟨by show (nrm _).2.length < _; rw [rz_len]; omega, by show (nrm _).2.length < _; rw [rz_len]; omega⟩
  have hs := sameAll5_p (trs A n k) (trs A n k) hl hl (by rw [trs_len]; omega) (by rw [trs_len]; omega)
  rw [decide_eq_true rfl] at hs
  exact hs
structure Tn (K : Int) (l : List Int) : Prop where
  x : ∀ x ∈ l, -32768 ≤ x ∧ x ≤ 32767
  n : l.length < 1048577
/-- what is asked does not fit -/
theorem trc_e (m : MR) (f : List QR) (K : Int) (l : List Int) (hm : Im m) (h : fitE m ≠ 0 ∨ K < 0 ∨ 6 < K) : PCall Tryz.prog 11 [.d (md m), .d (.sl (qes f)), .d (td K l)] (.one (.d (.v (.bool true)))) := by
  have h1 := hm.fit
  by_cases h0 : fitE m = 0
  · rw [h0] at h1
    by_cases h2 : K < 0
    · refine pcall_of hmo Tryz.func11 rfl (by kernel_rfl) (by simp [Tryz.ntmps11]) ?_; simp -implicitDefEqProofs [go_sem, Tryz.ntmps11]; (repeat refine And.intro (by first | decide +kernel | omega | kernel_rfl) ?_); (try decide +kernel)
      refine .inl ⟨_, h1, ?_⟩; simp -implicitDefEqProofs [go_sem, h2]; (repeat refine And.intro (by first | decide +kernel | omega | kernel_rfl) ?_); (try decide +kernel)
      refine .inl ⟨_, awake14_p, ?_⟩; simp -implicitDefEqProofs [go_sem]; (repeat refine And.intro (by first | decide +kernel | omega | kernel_rfl) ?_); (try decide +kernel)
    · have h3 : 6 < K := by
        rcases h with h | h | h
        · exact absurd h0 h
        · exact absurd h h2
        · exact h
      refine pcall_of hmo Tryz.func11 rfl (by kernel_rfl) (by simp [Tryz.ntmps11]) ?_; simp -implicitDefEqProofs [go_sem, Tryz.ntmps11]; (repeat refine And.intro (by first | decide +kernel | omega | kernel_rfl) ?_); (try decide +kernel)
      refine .inl ⟨_, h1, ?_⟩; simp -implicitDefEqProofs [go_sem, h2, h3]; (repeat refine And.intro (by first | decide +kernel | omega | kernel_rfl) ?_); (try decide +kernel)
      refine .inl ⟨_, awake14_p, ?_⟩; simp -implicitDefEqProofs [go_sem]; (repeat refine And.intro (by first | decide +kernel | omega | kernel_rfl) ?_); (try decide +kernel)
  · generalize fitE m = E at *
    refine pcall_of hmo Tryz.func11 rfl (by kernel_rfl) (by simp [Tryz.ntmps11]) ?_; simp -implicitDefEqProofs [go_sem, Tryz.ntmps11]; (repeat refine And.intro (by first | decide +kernel | omega | kernel_rfl) ?_); (try decide +kernel)
    refine .inl ⟨_, h1, ?_⟩; simp -implicitDefEqProofs [go_sem, h0]; (repeat refine And.intro (by first | decide +kernel | omega | kernel_rfl) ?_); (try decide +kernel)
    refine .inl ⟨_, awake14_p, ?_⟩; simp -implicitDefEqProofs [go_sem]; (repeat refine And.intro (by first | decide +kernel | omega | kernel_rfl) ?_); (try decide +kernel)
set_option maxRecDepth 100000 in
set_option maxHeartbeats 4000000 in
theorem trc_x (m : MR) (f : List QR) (k : Nat) (l : List Int) (hm : Im m) (hf : Ip f) (hl : Tn (k : Int) l) (h0 : fitE m = 0) (hk : k ≤ 6) (hok : l.length ≤ 30) (hfc : fitE (nm (mulQ (mall l m.2.length m.2.length).2.2 (mulQ (valM m) (mall l m.2.length m.2.length).2.1 m.2.length m.2.length m.2.length) m.2.length m.2.length m.2.length)) ≠ 0) : PCall Tryz.prog 11 [.d (md m), .d (.sl (qes f)), .d (td (k : Int) l)] (.one (.d (.v (.bool true)))) := by
  have h1 := hm.fit
  rw [h0] at h1
  obtain ⟨c1, c2, c3, c4, c5⟩ := fit_zero h0
  have hk0 : ¬ (k : Int) < 0 := by omega
  have hk6 : ¬ (6 : Int) < (k : Int) := by omega
  have hmt := matrix_p (k : Int) l hl.x hl.n m.2.length c2 c4
  have hI := Mi.all hl.x c2 c4 m.2.length (Nat.le_refl _)
  have hle := mall_le l m.2.length m.2.length (Nat.le_refl _)
  have hnn : m.2.length * m.2.length ≤ 24 * 24 := Nat.mul_le_mul c4 c4
  have hs := hm.sq h0
  have gm := hm.gm c1
  have gl := hm.gl (check_parts c1).1
  rw [decide_eq_true hok] at hmt
  obtain ⟨S, hS⟩ : ∃ S, S = (mall l m.2.length m.2.length).2.1 := ⟨_, rfl⟩
  obtain ⟨T, hT⟩ : ∃ T, T = (mall l m.2.length m.2.length).2.2 := ⟨_, rfl⟩
  have hI : Iq m.2.length (mall l m.2.length m.2.length).1 S T := by rw [hS, hT]; exact hI
  rw [← hS, ← hT] at hmt hfc
  have sS : Sq m.2.length 2000 S := hI.s.mono (by omega)
  have sT : Sq m.2.length 2000 T := hI.t.mono (by omega)
  have m1 := mul11_p m (nm S) (K := 1048577) gl (gl_nm sS.g (by decide)) gm (sS.g.mono (by decide)) (by decide) (by rw [nm_len, sS.l]; exact c3) (by omega) (by rw [nm_cols, sS.c]; omega) (by rw [nm_cols, sS.c]; omega)
  rw [valM_nm, ← c3, nm_cols, sS.c] at m1
  have sD := (hs.mul sS (by decide)).2
  have m2 := mul_sq (K := 1050579) (sT.mono (by decide)) sD (by decide)
  have sC := (sT.mul sD (by decide)).2
  have hfC := fit11_p (nm (mulQ T (mulQ (valM m) S m.2.length m.2.length m.2.length) m.2.length m.2.length m.2.length)) sC.g.d sC.g.g (fun _ => gl_nm sC.g (by decide)) (by
    have hw := flat_w (w := m.2.length) (V := (nm (mulQ T (mulQ (valM m) S m.2.length m.2.length m.2.length) m.2.length m.2.length m.2.length)).2) (fun r hr => by have := even_all sC.g.ev r hr; rw [nm_cols, sC.c] at this; omega)
    rw [nm_len, sC.l] at hw
    omega)
  generalize mulQ T (mulQ (valM m) S m.2.length m.2.length m.2.length) m.2.length m.2.length m.2.length = C at *
  generalize mulQ (valM m) S m.2.length m.2.length m.2.length = D at *
  generalize fitE (nm C) = E at *
  refine pcall_of hmo Tryz.func11 rfl (by kernel_rfl) (by simp [Tryz.ntmps11]) ?_; simp -implicitDefEqProofs [go_sem, Tryz.ntmps11]; (repeat refine And.intro (by first | decide +kernel | omega | kernel_rfl) ?_); (try decide +kernel)
  refine .inl ⟨_, h1, ?_⟩; simp -implicitDefEqProofs [go_sem, hk0, hk6]; (repeat refine And.intro (by first | decide +kernel | omega | kernel_rfl) ?_); (try decide +kernel)
  refine .inl ⟨_, hmt, ?_⟩; simp -implicitDefEqProofs [go_sem, hk0, hk6]; (repeat refine And.intro (by first | decide +kernel | omega | kernel_rfl) ?_); (try decide +kernel)
  refine .inl ⟨_, m1, ?_⟩; simp -implicitDefEqProofs [go_sem]; (repeat refine And.intro (by first | decide +kernel | omega | kernel_rfl) ?_); (try decide +kernel)
  refine .inl ⟨_, m2, ?_⟩; simp -implicitDefEqProofs [go_sem]; (repeat refine And.intro (by first | decide +kernel | omega | kernel_rfl) ?_); (try decide +kernel)
  refine .inl ⟨_, hfC, ?_⟩; simp -implicitDefEqProofs [go_sem, hfc]; (repeat refine And.intro (by first | decide +kernel | omega | kernel_rfl) ?_); (try decide +kernel)
  refine .inl ⟨_, awake14_p, ?_⟩; simp -implicitDefEqProofs [go_sem]; (repeat refine And.intro (by first | decide +kernel | omega | kernel_rfl) ?_); (try decide +kernel)
set_option maxRecDepth 100000 in
set_option maxHeartbeats 4000000 in
theorem trc_n1 (m : MR) (f : List QR) (k : Nat) (l : List Int) (hm : Im m) (hf : Ip f) (hl : Tn (k : Int) l) (h0 : fitE m = 0) (hk : k ≤ 6) (hok : ¬ l.length ≤ 30) (he : fitsE f m ≠ 0) : PCall Tryz.prog 11 [.d (md m), .d (.sl (qes f)), .d (td (k : Int) l)] (.one (.d (.v (.bool true)))) := by
  have h1 := hm.fit
  rw [h0] at h1
  obtain ⟨c1, c2, c3, c4, c5⟩ := fit_zero h0
  have hk0 : ¬ (k : Int) < 0 := by omega
  have hk6 : ¬ (6 : Int) < (k : Int) := by omega
  have hmt := matrix_p (k : Int) l hl.x hl.n m.2.length c2 c4
  have hI := Mi.all hl.x c2 c4 m.2.length (Nat.le_refl _)
  have hle := mall_le l m.2.length m.2.length (Nat.le_refl _)
  have hnn : m.2.length * m.2.length ≤ 24 * 24 := Nat.mul_le_mul c4 c4
  have hs := hm.sq h0
  have gm := hm.gm c1
  have gl := hm.gl (check_parts c1).1
  have ha := At_p f m hf hm
  rw [if_neg he] at ha
  have hp := fitPoly14_p f hf
  have hn := num14_p (fitsE f m)
  have ee : fpE f = fitsE f m := by
    have h2 : fitsE f m = if fpE f = 0 then fitE m else fpE f := rfl
    by_cases h3 : fpE f = 0
    · rw [if_pos h3] at h2; exact absurd (h2.trans h0) he
    · rw [if_neg h3] at h2; exact h2.symm
  rw [ee] at hp
  generalize fitsE f m = E at *
  rw [decide_eq_false hok] at hmt
  generalize mall l m.2.length m.2.length = M0 at *
  refine pcall_of hmo Tryz.func11 rfl (by kernel_rfl) (by simp [Tryz.ntmps11]) ?_; simp -implicitDefEqProofs [go_sem, Tryz.ntmps11]; (repeat refine And.intro (by first | decide +kernel | omega | kernel_rfl) ?_); (try decide +kernel)
  refine .inl ⟨_, h1, ?_⟩; simp -implicitDefEqProofs [go_sem, hk0, hk6]; (repeat refine And.intro (by first | decide +kernel | omega | kernel_rfl) ?_); (try decide +kernel)
  refine .inl ⟨_, hmt, ?_⟩; simp -implicitDefEqProofs [go_sem, hk0, hk6]; (repeat refine And.intro (by first | decide +kernel | omega | kernel_rfl) ?_); (try decide +kernel)
  refine .inl ⟨_, ha, ?_⟩; simp -implicitDefEqProofs [go_sem]; (repeat refine And.intro (by first | decide +kernel | omega | kernel_rfl) ?_); (try decide +kernel)
  refine .inl ⟨_, hn, ?_⟩; simp -implicitDefEqProofs [go_sem, he]; (repeat refine And.intro (by first | decide +kernel | omega | kernel_rfl) ?_); (try decide +kernel)
  refine .inl ⟨_, hn, ?_⟩; simp -implicitDefEqProofs [go_sem, he]; (repeat refine And.intro (by first | decide +kernel | omega | kernel_rfl) ?_); (try decide +kernel)
  refine .inl ⟨_, hp, ?_⟩; simp -implicitDefEqProofs [go_sem, he]; (repeat refine And.intro (by first | decide +kernel | omega | kernel_rfl) ?_); (try decide +kernel)
  refine .inl ⟨_, awake14_p, ?_⟩; simp -implicitDefEqProofs [go_sem]; (repeat refine And.intro (by first | decide +kernel | omega | kernel_rfl) ?_); (try decide +kernel)
set_option maxRecDepth 100000 in
set_option maxHeartbeats 4000000 in
theorem trc_n2 (m : MR) (f : List QR) (k : Nat) (l : List Int) (hm : Im m) (hf : Ip f) (hl : Tn (k : Int) l) (h0 : fitE m = 0) (hk : k ≤ 6) (hok : ¬ l.length ≤ 30) (he : fitsE f m = 0) (hfa : fitE (nm (atQ f m)) ≠ 0) : PCall Tryz.prog 11 [.d (md m), .d (.sl (qes f)), .d (td (k : Int) l)] (.one (.d (.v (.bool true)))) := by
  have h1 := hm.fit
  rw [h0] at h1
  obtain ⟨c1, c2, c3, c4, c5⟩ := fit_zero h0
  have hk0 : ¬ (k : Int) < 0 := by omega
  have hk6 : ¬ (6 : Int) < (k : Int) := by omega
  have hmt := matrix_p (k : Int) l hl.x hl.n m.2.length c2 c4
  have hI := Mi.all hl.x c2 c4 m.2.length (Nat.le_refl _)
  have hle := mall_le l m.2.length m.2.length (Nat.le_refl _)
  have hnn : m.2.length * m.2.length ≤ 24 * 24 := Nat.mul_le_mul c4 c4
  have hs := hm.sq h0
  have gm := hm.gm c1
  have gl := hm.gl (check_parts c1).1
  have ha := At_p f m hf hm
  have sP := at_sq hf hm he
  have hfP := fit11_p (nm (atQ f m)) sP.g.d sP.g.g (fun _ => gl_nm sP.g (by decide)) (by
    have hw := flat_w (w := m.2.length) (V := (nm (atQ f m)).2) (fun r hr => by have := even_all sP.g.ev r hr; rw [nm_cols, sP.c] at this; omega)
    rw [nm_len, sP.l] at hw
    omega)
  rw [he, if_pos rfl] at ha
  have hn := num14_p 0
  have hp := fitPoly14_p f hf
  rw [(fitsE_zero he).1] at hp
  generalize atQ f m = P at *
  generalize fitE (nm P) = E at *
  rw [decide_eq_false hok] at hmt
  generalize mall l m.2.length m.2.length = M0 at *
  refine pcall_of hmo Tryz.func11 rfl (by kernel_rfl) (by simp [Tryz.ntmps11]) ?_; simp -implicitDefEqProofs [go_sem, Tryz.ntmps11]; (repeat refine And.intro (by first | decide +kernel | omega | kernel_rfl) ?_); (try decide +kernel)
  refine .inl ⟨_, h1, ?_⟩; simp -implicitDefEqProofs [go_sem, hk0, hk6]; (repeat refine And.intro (by first | decide +kernel | omega | kernel_rfl) ?_); (try decide +kernel)
  refine .inl ⟨_, hmt, ?_⟩; simp -implicitDefEqProofs [go_sem, hk0, hk6]; (repeat refine And.intro (by first | decide +kernel | omega | kernel_rfl) ?_); (try decide +kernel)
  refine .inl ⟨_, ha, ?_⟩; simp -implicitDefEqProofs [go_sem]; (repeat refine And.intro (by first | decide +kernel | omega | kernel_rfl) ?_); (try decide +kernel)
  refine .inl ⟨_, hn, ?_⟩; simp -implicitDefEqProofs [go_sem]; (repeat refine And.intro (by first | decide +kernel | omega | kernel_rfl) ?_); (try decide +kernel)
  refine .inl ⟨_, hfP, ?_⟩; simp -implicitDefEqProofs [go_sem, hfa]; (repeat refine And.intro (by first | decide +kernel | omega | kernel_rfl) ?_); (try decide +kernel)
  refine .inl ⟨_, hn, ?_⟩; simp -implicitDefEqProofs [go_sem]; (repeat refine And.intro (by first | decide +kernel | omega | kernel_rfl) ?_); (try decide +kernel)
  refine .inl ⟨_, hp, ?_⟩; simp -implicitDefEqProofs [go_sem]; (repeat refine And.intro (by first | decide +kernel | omega | kernel_rfl) ?_); (try decide +kernel)
  refine .inl ⟨_, awake14_p, ?_⟩; simp -implicitDefEqProofs [go_sem]; (repeat refine And.intro (by first | decide +kernel | omega | kernel_rfl) ?_); (try decide +kernel)
set_option maxRecDepth 100000 in
set_option maxHeartbeats 4000000 in
theorem trc_n3 (m : MR) (f : List QR) (k : Nat) (l : List Int) (hm : Im m) (hf : Ip f) (hl : Tn (k : Int) l) (h0 : fitE m = 0) (hk : k ≤ 6) (hok : ¬ l.length ≤ 30) (he : fitsE f m = 0) (hfa : fitE (nm (atQ f m)) = 0) : PCall Tryz.prog 11 [.d (md m), .d (.sl (qes f)), .d (td (k : Int) l)] (.one (.d (.v (.bool true)))) := by
  have h1 := hm.fit
  rw [h0] at h1
  obtain ⟨c1, c2, c3, c4, c5⟩ := fit_zero h0
  have hk0 : ¬ (k : Int) < 0 := by omega
  have hk6 : ¬ (6 : Int) < (k : Int) := by omega
  have hmt := matrix_p (k : Int) l hl.x hl.n m.2.length c2 c4
  have hI := Mi.all hl.x c2 c4 m.2.length (Nat.le_refl _)
  have hle := mall_le l m.2.length m.2.length (Nat.le_refl _)
  have hnn : m.2.length * m.2.length ≤ 24 * 24 := Nat.mul_le_mul c4 c4
  have hs := hm.sq h0
  have gm := hm.gm c1
  have gl := hm.gl (check_parts c1).1
  have ha := At_p f m hf hm
  have sP := at_sq hf hm he
  have hfP := fit11_p (nm (atQ f m)) sP.g.d sP.g.g (fun _ => gl_nm sP.g (by decide)) (by
    have hw := flat_w (w := m.2.length) (V := (nm (atQ f m)).2) (fun r hr => by have := even_all sP.g.ev r hr; rw [nm_cols, sP.c] at this; omega)
    rw [nm_len, sP.l] at hw
    omega)
  rw [he, if_pos rfl] at ha
  have hn := num14_p 0
  rw [hfa] at hfP
  have hbr := bracket_x (nm (atQ f m)) m (K := 400000000) sP.g.d sP.g.g (fun _ => sP.g) (by
    rw [valM_nm]
    have hw := flat_w (w := m.2.length) (V := atQ f m) (fun r hr => by have := ho_rows _ _ _ r hr; omega)
    rw [sP.l] at hw
    omega) hm.d hm.g (fun h => (hm.gm h).mono (by decide)) (by have := hm.vfl; omega) (by decide)
  have eb : brE (nm (atQ f m)) m = 0 := by
    unfold brE
    rw [if_neg (by omega), if_neg (by omega), if_neg (by rw [nm_len, sP.l]; omega)]
  rw [eb, if_pos rfl, valM_nm, nm_len, sP.l, bracket_zero f h0] at hbr
  have sZ := Sq.zero hs.n0 hs.n1
  have hfi := fine14_p m.2.length [nm (zeroQ m.2.length m.2.length)] (fun x hx => by
    obtain rfl := List.mem_singleton.1 hx
    exact sZ.fine) (show 1 < 1000000 by decide)
  have hno := nought14_p (nm (zeroQ m.2.length m.2.length)) (gl_nm sZ.g (by decide)) (by
    rw [valM_nm]
    intro r hr q hq
    obtain ⟨i, _, rfl⟩ := List.mem_map.1 hr
    obtain ⟨j, _, rfl⟩ := List.mem_map.1 hq
    rfl)
  generalize atQ f m = P at *
  generalize zeroQ m.2.length m.2.length = Z at *
  rw [decide_eq_false hok] at hmt
  generalize mall l m.2.length m.2.length = M0 at *
  refine pcall_of hmo Tryz.func11 rfl (by kernel_rfl) (by simp [Tryz.ntmps11]) ?_; simp -implicitDefEqProofs [go_sem, Tryz.ntmps11]; (repeat refine And.intro (by first | decide +kernel | omega | kernel_rfl) ?_); (try decide +kernel)
  refine .inl ⟨_, h1, ?_⟩; simp -implicitDefEqProofs [go_sem, hk0, hk6]; (repeat refine And.intro (by first | decide +kernel | omega | kernel_rfl) ?_); (try decide +kernel)
  refine .inl ⟨_, hmt, ?_⟩; simp -implicitDefEqProofs [go_sem, hk0, hk6]; (repeat refine And.intro (by first | decide +kernel | omega | kernel_rfl) ?_); (try decide +kernel)
  refine .inl ⟨_, ha, ?_⟩; simp -implicitDefEqProofs [go_sem]; (repeat refine And.intro (by first | decide +kernel | omega | kernel_rfl) ?_); (try decide +kernel)
  refine .inl ⟨_, hn, ?_⟩; simp -implicitDefEqProofs [go_sem]; (repeat refine And.intro (by first | decide +kernel | omega | kernel_rfl) ?_); (try decide +kernel)
  refine .inl ⟨_, hfP, ?_⟩; simp -implicitDefEqProofs [go_sem]; (repeat refine And.intro (by first | decide +kernel | omega | kernel_rfl) ?_); (try decide +kernel)
  refine .inl ⟨_, hbr, ?_⟩; simp -implicitDefEqProofs [go_sem]; (repeat refine And.intro (by first | decide +kernel | omega | kernel_rfl) ?_); (try decide +kernel)
  refine .inl ⟨_, hn, ?_⟩; simp -implicitDefEqProofs [go_sem]; (repeat refine And.intro (by first | decide +kernel | omega | kernel_rfl) ?_); (try decide +kernel)
  refine .inl ⟨_, hfi, ?_⟩; simp -implicitDefEqProofs [go_sem]; (repeat refine And.intro (by first | decide +kernel | omega | kernel_rfl) ?_); (try decide +kernel)
  refine .inl ⟨_, hno, ?_⟩; simp -implicitDefEqProofs [go_sem]; (repeat refine And.intro (by first | decide +kernel | omega | kernel_rfl) ?_); (try decide +kernel)
  refine .inl ⟨_, awake14_p, ?_⟩; simp -implicitDefEqProofs [go_sem]; (repeat refine And.intro (by first | decide +kernel | omega | kernel_rfl) ?_); (try decide +kernel)
set_option maxRecDepth 100000 in
set_option maxHeartbeats 4000000 in
theorem trc_y1 (m : MR) (f : List QR) (k : Nat) (l : List Int) (hm : Im m) (hf : Ip f) (hl : Tn (k : Int) l) (h0 : fitE m = 0) (hk : k ≤ 6) (hok : l.length ≤ 30) (hfc : fitE (nm (mulQ (mall l m.2.length m.2.length).2.2 (mulQ (valM m) (mall l m.2.length m.2.length).2.1 m.2.length m.2.length m.2.length) m.2.length m.2.length m.2.length)) = 0) (he : fitsE f m ≠ 0) : PCall Tryz.prog 11 [.d (md m), .d (.sl (qes f)), .d (td (k : Int) l)] (.one (.d (.v (.bool true)))) := by
  have h1 := hm.fit
  rw [h0] at h1
  obtain ⟨c1, c2, c3, c4, c5⟩ := fit_zero h0
  have hk0 : ¬ (k : Int) < 0 := by omega
  have hk6 : ¬ (6 : Int) < (k : Int) := by omega
  have hmt := matrix_p (k : Int) l hl.x hl.n m.2.length c2 c4
  have hI := Mi.all hl.x c2 c4 m.2.length (Nat.le_refl _)
  have hle := mall_le l m.2.length m.2.length (Nat.le_refl _)
  have hnn : m.2.length * m.2.length ≤ 24 * 24 := Nat.mul_le_mul c4 c4
  have hs := hm.sq h0
  have gm := hm.gm c1
  have gl := hm.gl (check_parts c1).1
  have ha := At_p f m hf hm
  rw [if_neg he] at ha
  have hp := fitPoly14_p f hf
  have hn := num14_p (fitsE f m)
  have ee : fpE f = fitsE f m := by
    have h2 : fitsE f m = if fpE f = 0 then fitE m else fpE f := rfl
    by_cases h3 : fpE f = 0
    · rw [if_pos h3] at h2; exact absurd (h2.trans h0) he
    · rw [if_neg h3] at h2; exact h2.symm
  rw [ee] at hp
  generalize fitsE f m = E at *
  rw [decide_eq_true hok] at hmt
  obtain ⟨S, hS⟩ : ∃ S, S = (mall l m.2.length m.2.length).2.1 := ⟨_, rfl⟩
  obtain ⟨T, hT⟩ : ∃ T, T = (mall l m.2.length m.2.length).2.2 := ⟨_, rfl⟩
  have hI : Iq m.2.length (mall l m.2.length m.2.length).1 S T := by rw [hS, hT]; exact hI
  rw [← hS, ← hT] at hmt hfc
  have sS : Sq m.2.length 2000 S := hI.s.mono (by omega)
  have sT : Sq m.2.length 2000 T := hI.t.mono (by omega)
  have m1 := mul11_p m (nm S) (K := 1048577) gl (gl_nm sS.g (by decide)) gm (sS.g.mono (by decide)) (by decide) (by rw [nm_len, sS.l]; exact c3) (by omega) (by rw [nm_cols, sS.c]; omega) (by rw [nm_cols, sS.c]; omega)
  rw [valM_nm, ← c3, nm_cols, sS.c] at m1
  have sD := (hs.mul sS (by decide)).2
  have m2 := mul_sq (K := 1050579) (sT.mono (by decide)) sD (by decide)
  have sC := (sT.mul sD (by decide)).2
  have hfC := fit11_p (nm (mulQ T (mulQ (valM m) S m.2.length m.2.length m.2.length) m.2.length m.2.length m.2.length)) sC.g.d sC.g.g (fun _ => gl_nm sC.g (by decide)) (by
    have hw := flat_w (w := m.2.length) (V := (nm (mulQ T (mulQ (valM m) S m.2.length m.2.length m.2.length) m.2.length m.2.length m.2.length)).2) (fun r hr => by have := even_all sC.g.ev r hr; rw [nm_cols, sC.c] at this; omega)
    rw [nm_len, sC.l] at hw
    omega)
  have tr1 := Traces_p m k hm (by unfold pwX; rw [if_pos h0, if_neg (by omega)])
  have tr2 := Traces_p _ k (im_nm sC (tab_rws _ _).2 c4 hfc) (by unfold pwX; rw [if_pos hfc, if_neg (by omega)])
  rw [valM_nm, nm_len, show (mulQ T (mulQ (valM m) S m.2.length m.2.length m.2.length) m.2.length m.2.length m.2.length).length = m.2.length from length_tabQ _ _ _, trs_conj hs.l hI.st hI.ts] at tr2
  rw [hfc] at hfC
  have hsa := trs_same (n := m.2.length) (k := k) (A := valM m) (K := 210000000) (fun t ht => (pw_sq hs t (by omega)).mono (by omega)) (by decide) (by omega)
  have hal := all14_p 2 (by decide)
  generalize mulQ T (mulQ (valM m) S m.2.length m.2.length m.2.length) m.2.length m.2.length m.2.length = C at *
  generalize mulQ (valM m) S m.2.length m.2.length m.2.length = D at *
  generalize trs (valM m) m.2.length k = W at *
  refine pcall_of hmo Tryz.func11 rfl (by kernel_rfl) (by simp [Tryz.ntmps11]) ?_; simp -implicitDefEqProofs [go_sem, Tryz.ntmps11]; (repeat refine And.intro (by first | decide +kernel | omega | kernel_rfl) ?_); (try decide +kernel)
  refine .inl ⟨_, h1, ?_⟩; simp -implicitDefEqProofs [go_sem, hk0, hk6]; (repeat refine And.intro (by first | decide +kernel | omega | kernel_rfl) ?_); (try decide +kernel)
  refine .inl ⟨_, hmt, ?_⟩; simp -implicitDefEqProofs [go_sem, hk0, hk6]; (repeat refine And.intro (by first | decide +kernel | omega | kernel_rfl) ?_); (try decide +kernel)
  refine .inl ⟨_, m1, ?_⟩; simp -implicitDefEqProofs [go_sem]; (repeat refine And.intro (by first | decide +kernel | omega | kernel_rfl) ?_); (try decide +kernel)
  refine .inl ⟨_, m2, ?_⟩; simp -implicitDefEqProofs [go_sem]; (repeat refine And.intro (by first | decide +kernel | omega | kernel_rfl) ?_); (try decide +kernel)
  refine .inl ⟨_, hfC, ?_⟩; simp -implicitDefEqProofs [go_sem]; (repeat refine And.intro (by first | decide +kernel | omega | kernel_rfl) ?_); (try decide +kernel)
  refine .inl ⟨_, tr1, ?_⟩; simp -implicitDefEqProofs [go_sem]; (repeat refine And.intro (by first | decide +kernel | omega | kernel_rfl) ?_); (try decide +kernel)
  refine .inl ⟨_, tr2, ?_⟩; simp -implicitDefEqProofs [go_sem]; (repeat refine And.intro (by first | decide +kernel | omega | kernel_rfl) ?_); (try decide +kernel)
  refine .inl ⟨_, hal, ?_⟩; simp -implicitDefEqProofs [go_sem]; (repeat refine And.intro (by first | decide +kernel | omega | kernel_rfl) ?_); (try decide +kernel)
  refine .inl ⟨_, hsa, ?_⟩; simp -implicitDefEqProofs [go_sem]; (repeat refine And.intro (by first | decide +kernel | omega | kernel_rfl) ?_); (try decide +kernel)
  refine .inl ⟨_, ha, ?_⟩; simp -implicitDefEqProofs [go_sem]; (repeat refine And.intro (by first | decide +kernel | omega | kernel_rfl) ?_); (try decide +kernel)
  refine .inl ⟨_, hn, ?_⟩; simp -implicitDefEqProofs [go_sem, he]; (repeat refine And.intro (by first | decide +kernel | omega | kernel_rfl) ?_); (try decide +kernel)
  refine .inl ⟨_, hn, ?_⟩; simp -implicitDefEqProofs [go_sem, he]; (repeat refine And.intro (by first | decide +kernel | omega | kernel_rfl) ?_); (try decide +kernel)
  refine .inl ⟨_, hp, ?_⟩; simp -implicitDefEqProofs [go_sem, he]; (repeat refine And.intro (by first | decide +kernel | omega | kernel_rfl) ?_); (try decide +kernel)
  refine .inl ⟨_, awake14_p, ?_⟩; simp -implicitDefEqProofs [go_sem]; (repeat refine And.intro (by first | decide +kernel | omega | kernel_rfl) ?_); (try decide +kernel)
set_option maxRecDepth 100000 in
set_option maxHeartbeats 4000000 in
theorem trc_y2 (m : MR) (f : List QR) (k : Nat) (l : List Int) (hm : Im m) (hf : Ip f) (hl : Tn (k : Int) l) (h0 : fitE m = 0) (hk : k ≤ 6) (hok : l.length ≤ 30) (hfc : fitE (nm (mulQ (mall l m.2.length m.2.length).2.2 (mulQ (valM m) (mall l m.2.length m.2.length).2.1 m.2.length m.2.length m.2.length) m.2.length m.2.length m.2.length)) = 0) (he : fitsE f m = 0) (hfa : fitE (nm (atQ f m)) ≠ 0) : PCall Tryz.prog 11 [.d (md m), .d (.sl (qes f)), .d (td (k : Int) l)] (.one (.d (.v (.bool true)))) := by
  have h1 := hm.fit
  rw [h0] at h1
  obtain ⟨c1, c2, c3, c4, c5⟩ := fit_zero h0
  have hk0 : ¬ (k : Int) < 0 := by omega
  have hk6 : ¬ (6 : Int) < (k : Int) := by omega
  have hmt := matrix_p (k : Int) l hl.x hl.n m.2.length c2 c4
  have hI := Mi.all hl.x c2 c4 m.2.length (Nat.le_refl _)
  have hle := mall_le l m.2.length m.2.length (Nat.le_refl _)
  have hnn : m.2.length * m.2.length ≤ 24 * 24 := Nat.mul_le_mul c4 c4
  have hs := hm.sq h0
  have gm := hm.gm c1
  have gl := hm.gl (check_parts c1).1
  have ha := At_p f m hf hm
  have sP := at_sq hf hm he
  have hfP := fit11_p (nm (atQ f m)) sP.g.d sP.g.g (fun _ => gl_nm sP.g (by decide)) (by
    have hw := flat_w (w := m.2.length) (V := (nm (atQ f m)).2) (fun r hr => by have := even_all sP.g.ev r hr; rw [nm_cols, sP.c] at this; omega)
    rw [nm_len, sP.l] at hw
    omega)
  rw [he, if_pos rfl] at ha
  have hn := num14_p 0
  have hp := fitPoly14_p f hf
  rw [(fitsE_zero he).1] at hp
  generalize atQ f m = P at *
  generalize fitE (nm P) = E at *
  rw [decide_eq_true hok] at hmt
  obtain ⟨S, hS⟩ : ∃ S, S = (mall l m.2.length m.2.length).2.1 := ⟨_, rfl⟩
  obtain ⟨T, hT⟩ : ∃ T, T = (mall l m.2.length m.2.length).2.2 := ⟨_, rfl⟩
  have hI : Iq m.2.length (mall l m.2.length m.2.length).1 S T := by rw [hS, hT]; exact hI
  rw [← hS, ← hT] at hmt hfc
  have sS : Sq m.2.length 2000 S := hI.s.mono (by omega)
  have sT : Sq m.2.length 2000 T := hI.t.mono (by omega)
  have m1 := mul11_p m (nm S) (K := 1048577) gl (gl_nm sS.g (by decide)) gm (sS.g.mono (by decide)) (by decide) (by rw [nm_len, sS.l]; exact c3) (by omega) (by rw [nm_cols, sS.c]; omega) (by rw [nm_cols, sS.c]; omega)
  rw [valM_nm, ← c3, nm_cols, sS.c] at m1
  have sD := (hs.mul sS (by decide)).2
  have m2 := mul_sq (K := 1050579) (sT.mono (by decide)) sD (by decide)
  have sC := (sT.mul sD (by decide)).2
  have hfC := fit11_p (nm (mulQ T (mulQ (valM m) S m.2.length m.2.length m.2.length) m.2.length m.2.length m.2.length)) sC.g.d sC.g.g (fun _ => gl_nm sC.g (by decide)) (by
    have hw := flat_w (w := m.2.length) (V := (nm (mulQ T (mulQ (valM m) S m.2.length m.2.length m.2.length) m.2.length m.2.length m.2.length)).2) (fun r hr => by have := even_all sC.g.ev r hr; rw [nm_cols, sC.c] at this; omega)
    rw [nm_len, sC.l] at hw
    omega)
  have tr1 := Traces_p m k hm (by unfold pwX; rw [if_pos h0, if_neg (by omega)])
  have tr2 := Traces_p _ k (im_nm sC (tab_rws _ _).2 c4 hfc) (by unfold pwX; rw [if_pos hfc, if_neg (by omega)])
  rw [valM_nm, nm_len, show (mulQ T (mulQ (valM m) S m.2.length m.2.length m.2.length) m.2.length m.2.length m.2.length).length = m.2.length from length_tabQ _ _ _, trs_conj hs.l hI.st hI.ts] at tr2
  rw [hfc] at hfC
  have hsa := trs_same (n := m.2.length) (k := k) (A := valM m) (K := 210000000) (fun t ht => (pw_sq hs t (by omega)).mono (by omega)) (by decide) (by omega)
  have hal := all14_p 2 (by decide)
  generalize mulQ T (mulQ (valM m) S m.2.length m.2.length m.2.length) m.2.length m.2.length m.2.length = C at *
  generalize mulQ (valM m) S m.2.length m.2.length m.2.length = D at *
  generalize trs (valM m) m.2.length k = W at *
  refine pcall_of hmo Tryz.func11 rfl (by kernel_rfl) (by simp [Tryz.ntmps11]) ?_; simp -implicitDefEqProofs [go_sem, Tryz.ntmps11]; (repeat refine And.intro (by first | decide +kernel | omega | kernel_rfl) ?_); (try decide +kernel)
  refine .inl ⟨_, h1, ?_⟩; simp -implicitDefEqProofs [go_sem, hk0, hk6]; (repeat refine And.intro (by first | decide +kernel | omega | kernel_rfl) ?_); (try decide +kernel)
  refine .inl ⟨_, hmt, ?_⟩; simp -implicitDefEqProofs [go_sem, hk0, hk6]; (repeat refine And.intro (by first | decide +kernel | omega | kernel_rfl) ?_); (try decide +kernel)
  refine .inl ⟨_, m1, ?_⟩; simp -implicitDefEqProofs [go_sem]; (repeat refine And.intro (by first | decide +kernel | omega | kernel_rfl) ?_); (try decide +kernel)
  refine .inl ⟨_, m2, ?_⟩; simp -implicitDefEqProofs [go_sem]; (repeat refine And.intro (by first | decide +kernel | omega | kernel_rfl) ?_); (try decide +kernel)
  refine .inl ⟨_, hfC, ?_⟩; simp -implicitDefEqProofs [go_sem]; (repeat refine And.intro (by first | decide +kernel | omega | kernel_rfl) ?_); (try decide +kernel)
  refine .inl ⟨_, tr1, ?_⟩; simp -implicitDefEqProofs [go_sem]; (repeat refine And.intro (by first | decide +kernel | omega | kernel_rfl) ?_); (try decide +kernel)
  refine .inl ⟨_, tr2, ?_⟩; simp -implicitDefEqProofs [go_sem]; (repeat refine And.intro (by first | decide +kernel | omega | kernel_rfl) ?_); (try decide +kernel)
  refine .inl ⟨_, hal, ?_⟩; simp -implicitDefEqProofs [go_sem]; (repeat refine And.intro (by first | decide +kernel | omega | kernel_rfl) ?_); (try decide +kernel)
  refine .inl ⟨_, hsa, ?_⟩; simp -implicitDefEqProofs [go_sem]; (repeat refine And.intro (by first | decide +kernel | omega | kernel_rfl) ?_); (try decide +kernel)
  refine .inl ⟨_, ha, ?_⟩; simp -implicitDefEqProofs [go_sem]; (repeat refine And.intro (by first | decide +kernel | omega | kernel_rfl) ?_); (try decide +kernel)
  refine .inl ⟨_, hn, ?_⟩; simp -implicitDefEqProofs [go_sem]; (repeat refine And.intro (by first | decide +kernel | omega | kernel_rfl) ?_); (try decide +kernel)
  refine .inl ⟨_, hfP, ?_⟩; simp -implicitDefEqProofs [go_sem, hfa]; (repeat refine And.intro (by first | decide +kernel | omega | kernel_rfl) ?_); (try decide +kernel)
  refine .inl ⟨_, hn, ?_⟩; simp -implicitDefEqProofs [go_sem]; (repeat refine And.intro (by first | decide +kernel | omega | kernel_rfl) ?_); (try decide +kernel)
  refine .inl ⟨_, hp, ?_⟩; simp -implicitDefEqProofs [go_sem]; (repeat refine And.intro (by first | decide +kernel | omega | kernel_rfl) ?_); (try decide +kernel)
  refine .inl ⟨_, awake14_p, ?_⟩; simp -implicitDefEqProofs [go_sem]; (repeat refine And.intro (by first | decide +kernel | omega | kernel_rfl) ?_); (try decide +kernel)
set_option maxRecDepth 100000 in
set_option maxHeartbeats 4000000 in
theorem trc_y3 (m : MR) (f : List QR) (k : Nat) (l : List Int) (hm : Im m) (hf : Ip f) (hl : Tn (k : Int) l) (h0 : fitE m = 0) (hk : k ≤ 6) (hok : l.length ≤ 30) (hfc : fitE (nm (mulQ (mall l m.2.length m.2.length).2.2 (mulQ (valM m) (mall l m.2.length m.2.length).2.1 m.2.length m.2.length m.2.length) m.2.length m.2.length m.2.length)) = 0) (he : fitsE f m = 0) (hfa : fitE (nm (atQ f m)) = 0) : PCall Tryz.prog 11 [.d (md m), .d (.sl (qes f)), .d (td (k : Int) l)] (.one (.d (.v (.bool true)))) := by
  have h1 := hm.fit
  rw [h0] at h1
  obtain ⟨c1, c2, c3, c4, c5⟩ := fit_zero h0
  have hk0 : ¬ (k : Int) < 0 := by omega
  have hk6 : ¬ (6 : Int) < (k : Int) := by omega
  have hmt := matrix_p (k : Int) l hl.x hl.n m.2.length c2 c4
  have hI := Mi.all hl.x c2 c4 m.2.length (Nat.le_refl _)
  have hle := mall_le l m.2.length m.2.length (Nat.le_refl _)
  have hnn : m.2.length * m.2.length ≤ 24 * 24 := Nat.mul_le_mul c4 c4
  have hs := hm.sq h0
  have gm := hm.gm c1
  have gl := hm.gl (check_parts c1).1
  have ha := At_p f m hf hm
  have sP := at_sq hf hm he
  have hfP := fit11_p (nm (atQ f m)) sP.g.d sP.g.g (fun _ => gl_nm sP.g (by decide)) (by
    have hw := flat_w (w := m.2.length) (V := (nm (atQ f m)).2) (fun r hr => by have := even_all sP.g.ev r hr; rw [nm_cols, sP.c] at this; omega)
    rw [nm_len, sP.l] at hw
    omega)
  rw [he, if_pos rfl] at ha
  have hn := num14_p 0
  rw [hfa] at hfP
  have hbr := bracket_x (nm (atQ f m)) m (K := 400000000) sP.g.d sP.g.g (fun _ => sP.g) (by
    rw [valM_nm]
    have hw := flat_w (w := m.2.length) (V := atQ f m) (fun r hr => by have := ho_rows _ _ _ r hr; omega)
    rw [sP.l] at hw
    omega) hm.d hm.g (fun h => (hm.gm h).mono (by decide)) (by have := hm.vfl; omega) (by decide)
  have eb : brE (nm (atQ f m)) m = 0 := by
    unfold brE
    rw [if_neg (by omega), if_neg (by omega), if_neg (by rw [nm_len, sP.l]; omega)]
  rw [eb, if_pos rfl, valM_nm, nm_len, sP.l, bracket_zero f h0] at hbr
  have sZ := Sq.zero hs.n0 hs.n1
  have hfi := fine14_p m.2.length [nm (zeroQ m.2.length m.2.length)] (fun x hx => by
    obtain rfl := List.mem_singleton.1 hx
    exact sZ.fine) (show 1 < 1000000 by decide)
  have hno := nought14_p (nm (zeroQ m.2.length m.2.length)) (gl_nm sZ.g (by decide)) (by
    rw [valM_nm]
    intro r hr q hq
    obtain ⟨i, _, rfl⟩ := List.mem_map.1 hr
    obtain ⟨j, _, rfl⟩ := List.mem_map.1 hq
    rfl)
  generalize atQ f m = P at *
  generalize zeroQ m.2.length m.2.length = Z at *
  rw [decide_eq_true hok] at hmt
  obtain ⟨S, hS⟩ : ∃ S, S = (mall l m.2.length m.2.length).2.1 := ⟨_, rfl⟩
  obtain ⟨T, hT⟩ : ∃ T, T = (mall l m.2.length m.2.length).2.2 := ⟨_, rfl⟩
  have hI : Iq m.2.length (mall l m.2.length m.2.length).1 S T := by rw [hS, hT]; exact hI
  rw [← hS, ← hT] at hmt hfc
  have sS : Sq m.2.length 2000 S := hI.s.mono (by omega)
  have sT : Sq m.2.length 2000 T := hI.t.mono (by omega)
  have m1 := mul11_p m (nm S) (K := 1048577) gl (gl_nm sS.g (by decide)) gm (sS.g.mono (by decide)) (by decide) (by rw [nm_len, sS.l]; exact c3) (by omega) (by rw [nm_cols, sS.c]; omega) (by rw [nm_cols, sS.c]; omega)
  rw [valM_nm, ← c3, nm_cols, sS.c] at m1
  have sD := (hs.mul sS (by decide)).2
  have m2 := mul_sq (K := 1050579) (sT.mono (by decide)) sD (by decide)
  have sC := (sT.mul sD (by decide)).2
  have hfC := fit11_p (nm (mulQ T (mulQ (valM m) S m.2.length m.2.length m.2.length) m.2.length m.2.length m.2.length)) sC.g.d sC.g.g (fun _ => gl_nm sC.g (by decide)) (by
    have hw := flat_w (w := m.2.length) (V := (nm (mulQ T (mulQ (valM m) S m.2.length m.2.length m.2.length) m.2.length m.2.length m.2.length)).2) (fun r hr => by have := even_all sC.g.ev r hr; rw [nm_cols, sC.c] at this; omega)
    rw [nm_len, sC.l] at hw
    omega)
  have tr1 := Traces_p m k hm (by unfold pwX; rw [if_pos h0, if_neg (by omega)])
  have tr2 := Traces_p _ k (im_nm sC (tab_rws _ _).2 c4 hfc) (by unfold pwX; rw [if_pos hfc, if_neg (by omega)])
  rw [valM_nm, nm_len, show (mulQ T (mulQ (valM m) S m.2.length m.2.length m.2.length) m.2.length m.2.length m.2.length).length = m.2.length from length_tabQ _ _ _, trs_conj hs.l hI.st hI.ts] at tr2
  rw [hfc] at hfC
  have hsa := trs_same (n := m.2.length) (k := k) (A := valM m) (K := 210000000) (fun t ht => (pw_sq hs t (by omega)).mono (by omega)) (by decide) (by omega)
  have hal := all14_p 2 (by decide)
  generalize mulQ T (mulQ (valM m) S m.2.length m.2.length m.2.length) m.2.length m.2.length m.2.length = C at *
  generalize mulQ (valM m) S m.2.length m.2.length m.2.length = D at *
  generalize trs (valM m) m.2.length k = W at *
  refine pcall_of hmo Tryz.func11 rfl (by kernel_rfl) (by simp [Tryz.ntmps11]) ?_; simp -implicitDefEqProofs [go_sem, Tryz.ntmps11]; (repeat refine And.intro (by first | decide +kernel | omega | kernel_rfl) ?_); (try decide +kernel)
  refine .inl ⟨_, h1, ?_⟩; simp -implicitDefEqProofs [go_sem, hk0, hk6]; (repeat refine And.intro (by first | decide +kernel | omega | kernel_rfl) ?_); (try decide +kernel)
  refine .inl ⟨_, hmt, ?_⟩; simp -implicitDefEqProofs [go_sem, hk0, hk6]; (repeat refine And.intro (by first | decide +kernel | omega | kernel_rfl) ?_); (try decide +kernel)
  refine .inl ⟨_, m1, ?_⟩; simp -implicitDefEqProofs [go_sem]; (repeat refine And.intro (by first | decide +kernel | omega | kernel_rfl) ?_); (try decide +kernel)
  refine .inl ⟨_, m2, ?_⟩; simp -implicitDefEqProofs [go_sem]; (repeat refine And.intro (by first | decide +kernel | omega | kernel_rfl) ?_); (try decide +kernel)
  refine .inl ⟨_, hfC, ?_⟩; simp -implicitDefEqProofs [go_sem]; (repeat refine And.intro (by first | decide +kernel | omega | kernel_rfl) ?_); (try decide +kernel)
  refine .inl ⟨_, tr1, ?_⟩; simp -implicitDefEqProofs [go_sem]; (repeat refine And.intro (by first | decide +kernel | omega | kernel_rfl) ?_); (try decide +kernel)
  refine .inl ⟨_, tr2, ?_⟩; simp -implicitDefEqProofs [go_sem]; (repeat refine And.intro (by first | decide +kernel | omega | kernel_rfl) ?_); (try decide +kernel)
  refine .inl ⟨_, hal, ?_⟩; simp -implicitDefEqProofs [go_sem]; (repeat refine And.intro (by first | decide +kernel | omega | kernel_rfl) ?_); (try decide +kernel)
  refine .inl ⟨_, hsa, ?_⟩; simp -implicitDefEqProofs [go_sem]; (repeat refine And.intro (by first | decide +kernel | omega | kernel_rfl) ?_); (try decide +kernel)
  refine .inl ⟨_, ha, ?_⟩; simp -implicitDefEqProofs [go_sem]; (repeat refine And.intro (by first | decide +kernel | omega | kernel_rfl) ?_); (try decide +kernel)
  refine .inl ⟨_, hn, ?_⟩; simp -implicitDefEqProofs [go_sem]; (repeat refine And.intro (by first | decide +kernel | omega | kernel_rfl) ?_); (try decide +kernel)
  refine .inl ⟨_, hfP, ?_⟩; simp -implicitDefEqProofs [go_sem]; (repeat refine And.intro (by first | decide +kernel | omega | kernel_rfl) ?_); (try decide +kernel)
  refine .inl ⟨_, hbr, ?_⟩; simp -implicitDefEqProofs [go_sem]; (repeat refine And.intro (by first | decide +kernel | omega | kernel_rfl) ?_); (try decide +kernel)
  refine .inl ⟨_, hn, ?_⟩; simp -implicitDefEqProofs [go_sem]; (repeat refine And.intro (by first | decide +kernel | omega | kernel_rfl) ?_); (try decide +kernel)
  refine .inl ⟨_, hfi, ?_⟩; simp -implicitDefEqProofs [go_sem]; (repeat refine And.intro (by first | decide +kernel | omega | kernel_rfl) ?_); (try decide +kernel)
  refine .inl ⟨_, hno, ?_⟩; simp -implicitDefEqProofs [go_sem]; (repeat refine And.intro (by first | decide +kernel | omega | kernel_rfl) ?_); (try decide +kernel)
  refine .inl ⟨_, awake14_p, ?_⟩; simp -implicitDefEqProofs [go_sem]; (repeat refine And.intro (by first | decide +kernel | omega | kernel_rfl) ?_); (try decide +kernel)
theorem trc_p (m : MR) (f : List QR) (K : Int) (l : List Int) (hm : Im m) (hf : Ip f) (hl : Tn K l) : PCall Tryz.prog 11 [.d (md m), .d (.sl (qes f)), .d (td K l)] (.one (.d (.v (.bool true)))) := by
  by_cases h : fitE m ≠ 0 ∨ K < 0 ∨ 6 < K
  · exact trc_e m f K l hm h
  · have h0 : fitE m = 0 := by
      by_cases h0 : fitE m = 0
      · exact h0
      · exact absurd (.inl h0) h
    obtain ⟨k, rfl⟩ : ∃ k : Nat, K = (k : Int) := ⟨K.toNat, by omega⟩
    have hk : k ≤ 6 := by omega
    by_cases hok : l.length ≤ 30
    · by_cases hfc : fitE (nm (mulQ (mall l m.2.length m.2.length).2.2 (mulQ (valM m) (mall l m.2.length m.2.length).2.1 m.2.length m.2.length m.2.length) m.2.length m.2.length m.2.length)) = 0
      · by_cases he : fitsE f m = 0
        · by_cases hfa : fitE (nm (atQ f m)) = 0
          · exact trc_y3 m f k l hm hf hl h0 hk hok hfc he hfa
          · exact trc_y2 m f k l hm hf hl h0 hk hok hfc he hfa
        · exact trc_y1 m f k l hm hf hl h0 hk hok hfc he
      · exact trc_x m f k l hm hf hl h0 hk hok hfc
    · by_cases he : fitsE f m = 0
      · by_cases hfa : fitE (nm (atQ f m)) = 0
        · exact trc_n3 m f k l hm hf hl h0 hk hok he hfa
        · exact trc_n2 m f k l hm hf hl h0 hk hok he hfa
      · exact trc_n1 m f k l hm hf hl h0 hk hok he
end Go.Mt
