/-
  A part of the proof.
-/
import Derived.Test.YtmhclkagdpbadaaGreatEcb42
import Derived.Test.YtmhclkagdpbadaaGreatEcb45
import Derived.Test.YtmhclkagdpbadaaGreatEcb41
import Derived.Test.YtmhclkagdpbadaaGreatRows
import Derived.WalkKit
import Derived.ProofKit
import Derived.OpenShut
import Derived.JoinedCond
set_option linter.unusedVariables false
set_option linter.unusedSimpArgs false
set_option linter.unusedSimpArgs false
set_option linter.unusedVariables false
namespace Go.Mt
open Go Go.Pm Go.Proofs
theorem comb_h (l : List QR) (ms : List MR) (hl : ∀ x ∈ l, Rq x) (hb : ∃ q ∈ l, ofR q.2 = 0) (hn : l.length < 549755813888) :
    PCall Tryz.prog 79 [.d (.sl (qes l)), .d (.sl (mes ms))] (.tup [.d mE, .d (.v (.int .i64 6))]) := by
  have hht := height_e l hl hb hn
  refine pcall_of hmo Tryz.func79 rfl (by kernel_rfl) (by simp [Tryz.ntmps79]) ?_; simp -implicitDefEqProofs [go_sem, Tryz.ntmps79]; (repeat refine And.intro (by first | decide +kernel | omega | kernel_rfl) ?_); (try decide +kernel)
  refine .inl ⟨_, hht, ?_⟩; simp -implicitDefEqProofs [go_sem]; (repeat refine And.intro (by first | decide +kernel | omega | kernel_rfl) ?_); (try decide +kernel)
theorem comb_n (l : List QR) (ms : List MR) (hl : ∀ x ∈ l, Lq x) (hm : ∀ m ∈ ms, Rz m.1 ∧ Grw m.2) (hnl : l.length < 549755813888) (hn : ms.length < 549755813888) (hs : checksE ms ≠ 0 ∨ l.length ≠ ms.length ∨ ms.length = 0) :
    PCall Tryz.prog 79 [.d (.sl (qes l)), .d (.sl (mes ms))] (.tup [.d mE, .d (.v (.int .i64 (if checksE ms ≠ 0 then checksE ms else 2)))]) := by
  have hht := height_p l (fun x hx => ⟨(hl x hx).rq, (hl x hx).ne⟩) hnl (fun x hx => by have := (hl x hx).ql; omega)
  obtain ⟨R, hR⟩ : ∃ R, R = (if checksE ms ≠ 0 then checksE ms else 2) := ⟨_, rfl⟩
  rw [← hR]
  refine pcall_of hmo Tryz.func79 rfl (by kernel_rfl) (by simp [Tryz.ntmps79]) ?_; simp -implicitDefEqProofs [go_sem, Tryz.ntmps79]; (repeat refine And.intro (by first | decide +kernel | omega | kernel_rfl) ?_); (try decide +kernel)
  refine .inl ⟨_, hht, ?_⟩; simp -implicitDefEqProofs [go_sem]; (repeat refine And.intro (by first | decide +kernel | omega | kernel_rfl) ?_); (try decide +kernel)
  refine loop_rule [] (fun (k : Nat) => ⟨91, [(0, .d (.sl (qes l))), (1, .d (.sl (mes ms))), (4, .pr 0 0 0 0), (27, .d (.sl (mes ms))), (28, intP .i64 (ms.length : Int)), (29, intP .i64 (k : Int))], [(0, .box [.d (.v (.bool false)), .nl, .nl])], 1000⟩)
    (fun k => k ≤ ms.length ∧ allK (fun m => decide (checkE m = 0)) ms k) (fun k => ms.length - k) 0 ⟨Nat.zero_le _, allK_zero _ _⟩ (by simp) (by simp -implicitDefEqProofs [go_sem]) (fun k ⟨hk, ha⟩ => ?_)
  by_cases hkl : k < ms.length
  · obtain ⟨h1, h2⟩ := hm _ (List.getElem_mem hkl)
    have hck := check_p ms[k] h1 h2
    by_cases h0 : checkE ms[k] = 0
    · rw [h0] at hck
      simp -implicitDefEqProofs [go_sem, hkl]; (repeat refine And.intro (by first | decide +kernel | omega | kernel_rfl) ?_); (try decide +kernel)
      refine .inl ⟨_, hck, ?_⟩; simp -implicitDefEqProofs [go_sem]; (repeat refine And.intro (by first | decide +kernel | omega | kernel_rfl) ?_); (try decide +kernel)
      exact ⟨k + 1, ⟨by omega, allK_succ hkl ha (by simp [h0])⟩, by omega, by omega⟩
    · have e := checksE_take hkl ha h0
      rw [e, if_pos h0] at hR
      rw [hR]
      simp -implicitDefEqProofs [go_sem, hkl]; (repeat refine And.intro (by first | decide +kernel | omega | kernel_rfl) ?_); (try decide +kernel)
      refine .inl ⟨_, hck, ?_⟩; simp -implicitDefEqProofs [go_sem, h0]; (repeat refine And.intro (by first | decide +kernel | omega | kernel_rfl) ?_); (try decide +kernel)
  · obtain rfl : k = ms.length := by omega
    have e := checksE_zero (allK_all ha)
    have e2 : (if checksE ms ≠ 0 then checksE ms else 2) = 2 := if_neg (by simp [e])
    rw [hR, e2]
    by_cases h1 : l.length = ms.length
    · have h2 : ms.length = 0 := by omega
      have h3 : ms = [] := List.eq_nil_of_length_eq_zero h2
      have h4 : l = [] := List.eq_nil_of_length_eq_zero (by omega)
      subst h3 h4
      simp -implicitDefEqProofs [go_sem]; (repeat refine And.intro (by first | decide +kernel | omega | kernel_rfl) ?_); (try decide +kernel)
    · have h2 : ¬ ((l.length : Nat) : Int) = ((ms.length : Nat) : Int) := by omega
      simp -implicitDefEqProofs [go_sem, h1, h2]; (repeat refine And.intro (by first | decide +kernel | omega | kernel_rfl) ?_); (try decide +kernel)
/-- the first of two errors -/
def orE (a b : Int) : Int := if a = 0 then b else a
theorem orE_zero (b : Int) : orE 0 b = b := if_pos rfl
theorem orE_ne {a : Int} (b : Int) (h : a ≠ 0) : orE a b = a := if_neg h
theorem orE_assoc (a b c : Int) : orE (orE a b) c = orE a (orE b c) := by
  by_cases h : a = 0
  · rw [h, orE_zero, orE_zero]
  · rw [orE_ne _ h, orE_ne _ h, orE_ne _ h]
theorem checksE_cons (m : MR) (l : List MR) : checksE (m :: l) = orE (checkE m) (checksE l) := by
  show (if checkE m ≠ 0 then checkE m else checksE l) = _
  by_cases h : checkE m = 0
  · rw [if_neg (fun h2 => h2 h), h, orE_zero]
  · rw [if_pos h, orE_ne _ h]
theorem checksE_snoc (l : List MR) (m : MR) : checksE (l ++ [m]) = orE (checksE l) (checkE m) := by
  induction l with
  | nil =>
    rw [List.nil_append, checksE_cons]
    show orE (checkE m) 0 = orE 0 (checkE m)
    rw [orE_zero]
    by_cases h : checkE m = 0
    · rw [h, orE_zero]
    · rw [orE_ne _ h]
  | cons x l ih => rw [List.cons_append, checksE_cons, checksE_cons, ih, orE_assoc]
/-- the error so far: of the fractions, of the first k matrices -/
def cd1 (c0 : Int) (ms : List MR) (k : Nat) : Int := orE c0 (checksE (ms.take k))
theorem cd1_succ {c0 : Int} {ms : List MR} {k : Nat} (hk : k < ms.length) : cd1 c0 ms (k + 1) = orE (cd1 c0 ms k) (checkE ms[k]) := by
  unfold cd1
  rw [List.take_add_one, List.getElem?_eq_getElem hk, Option.toList_some, checksE_snoc, orE_assoc]
/-- and of the sizes -/
def shE (ms : List MR) (m : MR) : Int := if shp ms m = true then 0 else 2
def shL (ms l : List MR) : Int := if l.all (shp ms) = true then 0 else 2
theorem shL_snoc (ms l : List MR) (m : MR) : shL ms (l ++ [m]) = orE (shL ms l) (shE ms m) := by
  unfold shL shE
  rw [List.all_append]
  by_cases h : l.all (shp ms) = true
  · rw [h, if_pos rfl, orE_zero]; simp
  · rw [eq_false_of_ne_true h]; rfl
def cd2 (c1 : Int) (ms : List MR) (k : Nat) : Int := orE c1 (shL ms (ms.take k))
theorem cd2_succ {c1 : Int} {ms : List MR} {k : Nat} (hk : k < ms.length) : cd2 c1 ms (k + 1) = orE (cd2 c1 ms k) (shE ms ms[k]) := by
  unfold cd2
  rw [List.take_add_one, List.getElem?_eq_getElem hk, Option.toList_some, shL_snoc, orE_assoc]
end Go.Mt
/-
  A part of the proof.
-/
set_option linter.unusedSimpArgs false
set_option linter.unusedVariables false
namespace Go.Mt
open Go Go.Pm Go.Proofs
/-- the sums as the document has them: normal forms -/
theorem cmb_nz {l : List QR} {ms : List MR} (hl : ∀ x ∈ l, Lq x) (hm : ∀ m ∈ ms, Im m ∧ checkE m = 0) (hlen : l.length = ms.length) {r c i : Nat} (hr : (mg ms 0).2.length = r) (hc : colsOf (mg ms 0).2 = c) (hi : i < ms.length) (hs : ∀ j, j ≤ i → shp ms (mg ms j) = true) (hK : kb l ms i < 8589934592) : Nz (cmb l ms r c i) := by
  have h := cmb_gm hl hm hlen hr hc hi hs (by omega)
  refine ⟨?_, fun r0 hr0 z hz => ?_⟩
  · exact Nat.lt_trans (gl_nm h hK).ld (by decide)
  · exact Nat.lt_trans ((gl_nm h hK).lz r0 hr0 z hz) (by decide)
theorem tabQ_w (f : Nat → Nat → Rat) (r c : Nat) {B : Nat} (hc : c < B) : ∀ q ∈ tabQ f r c, q.length < B := fun q hq => by rw [row_tabQ _ _ _ q hq]; exact hc
theorem cmb_w (l : List QR) (ms : List MR) (r c i : Nat) {B : Nat} (hc : c < B) : ∀ q ∈ cmb l ms r c i, q.length < B := by
  cases i with
  | zero => exact tabQ_w _ _ _ hc
  | succ i => exact tabQ_w _ _ _ hc
theorem im_cols {m : MR} (h : Im m) : colsOf m.2 < 1048577 := by
  cases hm : m.2 with
  | nil => show 0 < _; decide
  | cons r l => exact h.w r (by rw [hm]; exact List.mem_cons_self ..)
theorem im_rc {m : MR} (h : Im m) (he : evenB m.2 = true) : m.2.length * colsOf m.2 < 1048577 := by
  have e : m.2.flatten.length = m.2.length * colsOf m.2 := by
    rw [List.length_flatten]
    have : m.2.map List.length = m.2.map fun _ => colsOf m.2 := List.map_congr_left fun r hr => even_row he hr
    rw [this, List.map_const', List.sum_replicate_nat]
  rw [← e]; exact h.fl
/-- what the law answers, whatever the code: all but the sum itself -/
theorem shE_at {ms : List MR} {k : Nat} (hk : k < ms.length) : shp ms ms[k] = true ↔ ms[k].2.length = (mg ms 0).2.length ∧ colsOf ms[k].2 = colsOf (mg ms 0).2 := by
  unfold shp; rw [decide_eq_true_iff]
end Go.Mt
/-
  A part of the proof.
-/
set_option linter.unusedSimpArgs false
set_option linter.unusedVariables false
namespace Go.Mt
open Go Go.Pm Go.Proofs
def zM : MR := ((false, []), [])
def c0E (l : List QR) : Int := if l.all mayQ = true then 0 else 6
def nE (l : List QR) (ms : List MR) : Int := if l.length ≠ ms.length ∨ ms.length = 0 then 2 else 0
def cE (l : List QR) (ms : List MR) : Int := orE (orE (orE (c0E l) (checksE ms)) (nE l ms)) (shL ms ms)
def cX (l : List QR) (ms : List MR) : MR := if cE l ms = 0 then nm (cmbM l ms) else zM
structure Cin (l : List QR) (ms : List MR) : Prop where
  q : ∀ x ∈ l, Rq x ∧ x.1.2.length < 1048577 ∧ x.2.2.length < 1048577
  nl : l.length < 1048577
  m : ∀ m ∈ ms, Im m
  n : ms.length < 1048577
  kb : l.length = ms.length → kb l ms (ms.length - 1) < 2147483648
theorem Cin.lq {l : List QR} {ms : List MR} (h : Cin l ms) (ha : l.all mayQ = true) : ∀ x ∈ l, Lq x := fun x hx => by
  obtain ⟨h1, h2, h3⟩ := h.q x hx
  exact ⟨h1, by have := List.all_eq_true.1 ha x hx; simpa [mayQ] using this, by omega, by omega⟩
theorem comb_all (l : List QR) (ms : List MR) (h : Cin l ms) : PCall Tryz.prog 79 [.d (.sl (qes l)), .d (.sl (mes ms))] (.tup [.d (md (cX l ms)), .d (.v (.int .i64 (cE l ms)))]) := by
  have hme : md zM = mE := rfl
  by_cases ha : l.all mayQ = true
  · have hl := h.lq ha
    have e0 : c0E l = 0 := if_pos ha
    by_cases hc : checksE ms = 0
    · have hm : ∀ m ∈ ms, Im m ∧ checkE m = 0 := fun m hm => ⟨h.m m hm, checksE_get hc m hm⟩
      by_cases hn : l.length ≠ ms.length ∨ ms.length = 0
      · have e1 : nE l ms = 2 := if_pos hn
        have e : cE l ms = 2 := by unfold cE; rw [e0, hc, e1, orE_zero, orE_zero]; rfl
        have ex : cX l ms = zM := by unfold cX; rw [e]; rfl
        have := comb_n l ms hl (fun m hm => ⟨(h.m m hm).d, (h.m m hm).g⟩) (by have := h.nl; omega) (by have := h.n; omega) (.inr hn)
        rw [if_neg (fun h => h hc)] at this
        rw [e, ex, hme]; exact this
      · have e1 : nE l ms = 0 := if_neg hn
        have hlen : l.length = ms.length := by omega
        have h0 : 0 < ms.length := by omega
        have := comb_x l ms hl hm hlen h0 h.n (by have := h.kb hlen; omega)
        have e : cE l ms = shL ms ms := by unfold cE; rw [e0, hc, e1, orE_zero, orE_zero, orE_zero]
        by_cases hs : shAll ms = true
        · have es : shL ms ms = 0 := if_pos hs
          have ex : cX l ms = nm (cmbM l ms) := by unfold cX; rw [e, es]; rfl
          rw [if_pos hs, if_pos hs] at this
          rw [ex, e, es]; exact this
        · have es : shL ms ms = 2 := if_neg hs
          have ex : cX l ms = zM := by unfold cX; rw [e, es]; rfl
          rw [if_neg hs, if_neg hs] at this
          rw [ex, e, es, hme]; exact this
    · have e : cE l ms = checksE ms := by unfold cE; rw [e0, orE_zero, orE_ne _ hc, orE_ne _ hc]
      have ex : cX l ms = zM := by unfold cX; rw [e, if_neg hc]
      have := comb_n l ms hl (fun m hm => ⟨(h.m m hm).d, (h.m m hm).g⟩) (by have := h.nl; omega) (by have := h.n; omega) (.inl hc)
      rw [if_pos hc] at this
      rw [e, ex, hme]; exact this
  · have e0 : c0E l = 6 := if_neg ha
    have e : cE l ms = 6 := by unfold cE; rw [e0]; rfl
    have ex : cX l ms = zM := by unfold cX; rw [e]; rfl
    have hb : ∃ q ∈ l, ofR q.2 = 0 := by
      obtain ⟨q, hq, h⟩ := List.all_eq_false.1 (eq_false_of_ne_true ha)
      exact ⟨q, hq, by simpa [mayQ] using h⟩
    rw [e, ex, hme]
    exact comb_h l ms (fun x hx => (h.q x hx).1) hb (by have := h.nl; omega)
theorem orE_eq {a b : Int} (h : orE a b = 0) : a = 0 ∧ b = 0 := by
  by_cases h0 : a = 0
  · rw [h0, orE_zero] at h; exact ⟨h0, h⟩
  · rw [orE_ne _ h0] at h; exact absurd h h0
theorem cE_zero {l : List QR} {ms : List MR} (h : cE l ms = 0) : l.all mayQ = true ∧ checksE ms = 0 ∧ l.length = ms.length ∧ 0 < ms.length ∧ ∀ m ∈ ms, shp ms m = true := by
  obtain ⟨h1, h4⟩ := orE_eq h
  obtain ⟨h1, h3⟩ := orE_eq h1
  obtain ⟨h1, h2⟩ := orE_eq h1
  refine ⟨?_, h2, ?_, ?_, ?_⟩
  · by_cases ha : l.all mayQ = true
    · exact ha
    · rw [c0E, if_neg ha] at h1; exact absurd h1 (by decide)
  · by_cases hn : l.length ≠ ms.length ∨ ms.length = 0
    · rw [nE, if_pos hn] at h3; exact absurd h3 (by decide)
    · omega
  · by_cases hn : l.length ≠ ms.length ∨ ms.length = 0
    · rw [nE, if_pos hn] at h3; exact absurd h3 (by decide)
    · omega
  · by_cases hs : ms.all (shp ms) = true
    · exact List.all_eq_true.1 hs
    · rw [shL, if_neg hs] at h4; exact absurd h4 (by decide)
set_option maxRecDepth 100000 in
set_option maxHeartbeats 4000000 in
theorem combines_p (l : List QR) (ms : List MR) (h : Cin l ms) : PCall Tryz.prog 10 [.d (.sl (qes l)), .d (.sl (mes ms))] (.one (.d (.v (.bool true)))) := by
  have hcp := copyAll5_p l (fun x hx => by have := (h.q x hx).2; omega) (by have := h.nl; omega)
  have hcb := comb_all l ms h
  have ham := allMay5_p l (fun x hx => (h.q x hx).1) (by have := h.nl; omega)
  have hnl := h.nl
  have hn := h.n
  obtain ⟨E, hE⟩ : ∃ E, E = cE l ms := ⟨_, rfl⟩
  obtain ⟨X, hX⟩ : ∃ X, X = cX l ms := ⟨_, rfl⟩
  rw [← hE, ← hX] at hcb
  obtain ⟨c0, hc0⟩ : ∃ c0, c0 = c0E l := ⟨_, rfl⟩
  obtain ⟨c1, hc1⟩ : ∃ c1, c1 = orE c0 (checksE ms) := ⟨_, rfl⟩
  obtain ⟨c2, hc2⟩ : ∃ c2, c2 = orE c1 (nE l ms) := ⟨_, rfl⟩
  have hE2 : orE c2 (shL ms ms) = E := by rw [hc2, hc1, hc0, hE]; rfl
  refine pcallS_of Tryz.func10 rfl (by kernel_rfl) (by simp [Tryz.ntmps10]) ?_; rw [Tryz.ntmps10]
  refine .seq (.of_fn hmo ?_); simp -implicitDefEqProofs [go_sem]; (repeat refine And.intro (by first | decide +kernel | omega | kernel_rfl) ?_); (try decide +kernel)
  refine .seq (.of_fn hmo ?_)
  simp -implicitDefEqProofs [go_sem]; (repeat refine And.intro (by first | decide +kernel | omega | kernel_rfl) ?_); (try decide +kernel)
  refine .inl ⟨_, hcp, ?_⟩; simp -implicitDefEqProofs [go_sem]; (repeat refine And.intro (by first | decide +kernel | omega | kernel_rfl) ?_); (try decide +kernel)
  refine .inl ⟨_, hcb, ?_⟩; simp -implicitDefEqProofs [go_sem]; (repeat refine And.intro (by first | decide +kernel | omega | kernel_rfl) ?_); (try decide +kernel)
  refine .seq (.of_fn hmo ?_); simp -implicitDefEqProofs [go_sem]; (repeat refine And.intro (by first | decide +kernel | omega | kernel_rfl) ?_); (try decide +kernel)
  refine .cut ⟨138, [(0, .d (.sl (qes l))), (1, .d (.sl (mes ms))), (4, .d (.v (.bool false))), (5, .pr 32 0 0 0), (6, intP .i64 E), (7, intP .i64 c0)], [(32, .box (mbx X))], 1000⟩ (.of_fn hmo ?_) ?_
  · by_cases ha : l.all mayQ = true
    · rw [ha] at ham
      have : c0 = 0 := by rw [hc0]; exact if_pos ha
      rw [this]
      simp -implicitDefEqProofs [go_sem]; (repeat refine And.intro (by first | decide +kernel | omega | kernel_rfl) ?_); (try decide +kernel)
      refine .inl ⟨_, ham, ?_⟩; simp -implicitDefEqProofs [go_sem]; (repeat refine And.intro (by first | decide +kernel | omega | kernel_rfl) ?_); (try decide +kernel)
    · rw [eq_false_of_ne_true ha] at ham
      have : c0 = 6 := by rw [hc0]; exact if_neg ha
      rw [this]
      simp -implicitDefEqProofs [go_sem]; (repeat refine And.intro (by first | decide +kernel | omega | kernel_rfl) ?_); (try decide +kernel)
      refine .inl ⟨_, ham, ?_⟩; simp -implicitDefEqProofs [go_sem]; (repeat refine And.intro (by first | decide +kernel | omega | kernel_rfl) ?_); (try decide +kernel)
  refine .cut ⟨138, [(0, .d (.sl (qes l))), (1, .d (.sl (mes ms))), (4, .d (.v (.bool false))), (5, .pr 32 0 0 0), (6, intP .i64 E), (7, intP .i64 c1)], [(32, .box (mbx X))], 4000⟩ (.of_fn hmo ?_) ?_
  · simp -implicitDefEqProofs [go_sem]; (repeat refine And.intro (by first | decide +kernel | omega | kernel_rfl) ?_); (try decide +kernel)
    refine loop_rule [] (fun (k : Nat) => ⟨138, [(0, .d (.sl (qes l))), (1, .d (.sl (mes ms))), (4, .d (.v (.bool false))), (5, .pr 32 0 0 0), (6, intP .i64 E), (7, intP .i64 (cd1 c0 ms k)), (23, .d (.sl (mes ms))), (24, intP .i64 (ms.length : Int)), (25, intP .i64 (k : Int))], [(32, .box (mbx X))], 2000⟩)
      (fun k => k ≤ ms.length) (fun k => ms.length - k) 0 (Nat.zero_le _) (by simp) (by simp -implicitDefEqProofs [go_sem, cd1, orE, checksE]) (fun k hk => ?_)
    by_cases hkl : k < ms.length
    · have hmk := h.m _ (List.getElem_mem hkl)
      have hck := check11_p ms[k] hmk.d hmk.g
      have hcs := cd1_succ (c0 := c0) hkl
      by_cases hz : cd1 c0 ms k = 0
      · rw [hz, orE_zero] at hcs
        rw [← hcs] at hck
        simp -implicitDefEqProofs [go_sem, hkl, hz]; (repeat refine And.intro (by first | decide +kernel | omega | kernel_rfl) ?_); (try decide +kernel)
        refine .inl ⟨_, hck, ?_⟩; simp -implicitDefEqProofs [go_sem]; (repeat refine And.intro (by first | decide +kernel | omega | kernel_rfl) ?_); (try decide +kernel)
        refine ⟨k + 1, ?_⟩; (repeat' apply And.intro) <;> first | omega | assumption | rfl
      · rw [orE_ne _ hz] at hcs
        simp -implicitDefEqProofs [go_sem, hkl, hz]; (repeat refine And.intro (by first | decide +kernel | omega | kernel_rfl) ?_); (try decide +kernel)
        refine ⟨k + 1, ?_⟩; (repeat' apply And.intro) <;> first | omega | (exact hcs.symm) | assumption | rfl
    · obtain rfl : k = ms.length := by omega
      have e : cd1 c0 ms ms.length = c1 := by unfold cd1; rw [List.take_length, hc1]
      rw [e]
      simp -implicitDefEqProofs [go_sem]; (repeat refine And.intro (by first | decide +kernel | omega | kernel_rfl) ?_); (try decide +kernel)
  refine .cut ⟨138, [(0, .d (.sl (qes l))), (1, .d (.sl (mes ms))), (4, .d (.v (.bool false))), (5, .pr 32 0 0 0), (6, intP .i64 E), (7, intP .i64 c2)], [(32, .box (mbx X))], 6000⟩ (.of_fn hmo ?_) ?_
  · by_cases hz : c1 = 0
    · by_cases hl : l.length = ms.length
      · by_cases hm0 : ms.length = 0
        · have e : c2 = 2 := by rw [hc2, hz, orE_zero]; exact if_pos (.inr hm0)
          have h3 : ms = [] := List.eq_nil_of_length_eq_zero hm0
          rw [e, hz]
          simp -implicitDefEqProofs [go_sem, hl, h3, undef]; (repeat refine And.intro (by first | decide +kernel | omega | kernel_rfl) ?_); (try decide +kernel)
        · have e : c2 = 0 := by rw [hc2, hz, orE_zero]; exact if_neg (by omega)
          have h3 : ¬ ms = [] := fun h => hm0 (by rw [h]; rfl)
          have h4 : ¬ ((ms.length : Nat) : Int) = 0 := by omega
          rw [e, hz]
          simp -implicitDefEqProofs [go_sem, hl, h3, h4, undef]; (repeat refine And.intro (by first | decide +kernel | omega | kernel_rfl) ?_); (try decide +kernel)
      · have e : c2 = 2 := by rw [hc2, hz, orE_zero]; exact if_pos (.inl hl)
        have h3 : ¬ ((l.length : Nat) : Int) = ((ms.length : Nat) : Int) := by omega
        rw [e, hz]
        simp -implicitDefEqProofs [go_sem, hl, h3, undef]; (repeat refine And.intro (by first | decide +kernel | omega | kernel_rfl) ?_); (try decide +kernel)
    · have e : c2 = c1 := by rw [hc2, orE_ne _ hz]
      rw [e]
      simp -implicitDefEqProofs [go_sem, hz, undef]; (repeat refine And.intro (by first | decide +kernel | omega | kernel_rfl) ?_); (try decide +kernel)
  refine .cut ⟨138, [(0, .d (.sl (qes l))), (1, .d (.sl (mes ms))), (4, .d (.v (.bool false))), (5, .pr 32 0 0 0), (6, intP .i64 E), (7, intP .i64 E)], [(32, .box (mbx X))], 9000⟩ (.of_fn hmo ?_) ?_
  · simp -implicitDefEqProofs [go_sem]; (repeat refine And.intro (by first | decide +kernel | omega | kernel_rfl) ?_); (try decide +kernel)
    refine loop_rule [] (fun (k : Nat) => ⟨138, [(0, .d (.sl (qes l))), (1, .d (.sl (mes ms))), (4, .d (.v (.bool false))), (5, .pr 32 0 0 0), (6, intP .i64 E), (7, intP .i64 (cd2 c2 ms k)), (49, intP .i64 (ms.length : Int)), (50, intP .i64 (k : Int))], [(32, .box (mbx X))], 7000⟩)
      (fun k => k ≤ ms.length) (fun k => ms.length - k) 0 (Nat.zero_le _) (by simp) (by simp -implicitDefEqProofs [go_sem, cd2, orE, shL]) (fun k hk => ?_)
    by_cases hkl : k < ms.length
    · have hcs := cd2_succ (c1 := c2) hkl
      by_cases hz : cd2 c2 ms k = 0
      · rw [hz, orE_zero] at hcs
        have h0 : 0 < ms.length := by omega
        have e0 := mg_get h0
        by_cases h1 : ms[k].2.length = ms[0].2.length
        · by_cases h2 : 0 < ms[0].2.length
          · have h2k : 0 < ms[k].2.length := by omega
            have g0 : ∀ h9 : 0 < (ms[0]'h0).2.length, ((ms[0]'h0).2[0]'h9).length = colsOf (ms[0]'h0).2 := fun h9 => colsOf_get h9
            have gk : ∀ h9 : 0 < (ms[k]'hkl).2.length, ((ms[k]'hkl).2[0]'h9).length = colsOf (ms[k]'hkl).2 := fun h9 => colsOf_get h9
            by_cases h3 : colsOf ms[k].2 = colsOf ms[0].2
            · have e : shE ms ms[k] = 0 := if_pos ((shE_at hkl).2 (by rw [e0]; exact ⟨h1, h3⟩))
              rw [e] at hcs
              simp -implicitDefEqProofs [go_sem, hkl, hz, h0, h1, h2, h2k, g0, gk, h3, undef]; (repeat refine And.intro (by first | decide +kernel | omega | kernel_rfl) ?_); (try decide +kernel)
              refine ⟨k + 1, ?_⟩; (repeat' apply And.intro) <;> first | omega | (exact hcs.symm) | assumption | rfl
            · have e : shE ms ms[k] = 2 := if_neg (fun hh => h3 (by rw [← e0]; exact ((shE_at hkl).1 hh).2))
              have h3z : ¬ ((colsOf ms[k].2 : Nat) : Int) = ((colsOf ms[0].2 : Nat) : Int) := by omega
              rw [e] at hcs
              simp -implicitDefEqProofs [go_sem, hkl, hz, h0, h1, h2, h2k, g0, gk, h3, h3z, undef]; (repeat refine And.intro (by first | decide +kernel | omega | kernel_rfl) ?_); (try decide +kernel)
              refine ⟨k + 1, ?_⟩; (repeat' apply And.intro) <;> first | omega | (exact hcs.symm) | assumption | rfl
          · have h2z : ms[0].2 = [] := List.eq_nil_of_length_eq_zero (by omega)
            have h2k : ms[k].2 = [] := List.eq_nil_of_length_eq_zero (by omega)
            have e : shE ms ms[k] = 0 := if_pos ((shE_at hkl).2 (by rw [e0, h2z, h2k]; exact ⟨rfl, rfl⟩))
            rw [e] at hcs
            simp -implicitDefEqProofs [go_sem, hkl, hz, h0, h2z, h2k, undef]; (repeat refine And.intro (by first | decide +kernel | omega | kernel_rfl) ?_); (try decide +kernel)
            refine ⟨k + 1, ?_⟩; (repeat' apply And.intro) <;> first | omega | (exact hcs.symm) | assumption | rfl
        · have e : shE ms ms[k] = 2 := if_neg (fun hh => h1 (by rw [← e0]; exact ((shE_at hkl).1 hh).1))
          have h1z : ¬ ((ms[k].2.length : Nat) : Int) = ((ms[0].2.length : Nat) : Int) := by omega
          rw [e] at hcs
          simp -implicitDefEqProofs [go_sem, hkl, hz, h0, h1, h1z, undef]; (repeat refine And.intro (by first | decide +kernel | omega | kernel_rfl) ?_); (try decide +kernel)
          refine ⟨k + 1, ?_⟩; (repeat' apply And.intro) <;> first | omega | (exact hcs.symm) | assumption | rfl
      · rw [orE_ne _ hz] at hcs
        simp -implicitDefEqProofs [go_sem, hkl, hz, undef]; (repeat refine And.intro (by first | decide +kernel | omega | kernel_rfl) ?_); (try decide +kernel)
        refine ⟨k + 1, ?_⟩; (repeat' apply And.intro) <;> first | omega | (exact hcs.symm) | assumption | rfl
    · obtain rfl : k = ms.length := by omega
      have e : cd2 c2 ms ms.length = E := by unfold cd2; rw [List.take_length]; exact hE2
      rw [e]
      simp -implicitDefEqProofs [go_sem]; (repeat refine And.intro (by first | decide +kernel | omega | kernel_rfl) ?_); (try decide +kernel)
  by_cases hz : E = 0
  · obtain ⟨ha, hck, hlen, h0, hsh⟩ := cE_zero (by rw [← hE]; exact hz)
    have hX2 : X = nm (cmbM l ms) := by rw [hX]; unfold cX; rw [if_pos (by rw [← hE]; exact hz)]
    have hl := h.lq ha
    have hm : ∀ m ∈ ms, Im m ∧ checkE m = 0 := fun m hm => ⟨h.m m hm, checksE_get hck m hm⟩
    have hK := h.kb hlen
    have h0l : 0 < l.length := by omega
    have hm0 := hm _ (List.getElem_mem h0)
    have hx0 := hl _ (List.getElem_mem h0l)
    have e0 := mg_get h0
    have f0 := cg_get h0l
    have hk0 : gk ms[0] + gq l[0] < 2147483648 := by
      have h1 : kb l ms 0 ≤ kb l ms (ms.length - 1) := kb_mono l ms (by omega)
      have h2 : kb l ms 0 = gk (mg ms 0) + gq (cg l 0) + 2 := by simp [kb]
      rw [e0, f0] at h2; omega
    have hrc0 := im_rc hm0.1 (hm0.1.gmk hm0.2).ev
    have hr0 := hm0.1.n
    have hcc0 := im_cols hm0.1
    have hsc0 := scale11_p ms[0] l[0] (hm0.1.gl (check_parts hm0.2).1) ((hm0.1.gmk hm0.2).mono (Nat.le_add_right _ (gq l[0]))) hx0 (Nat.le_trans hx0.gq (Nat.le_add_left _ _)) (by omega) (by omega) (by omega)
    rw [← e0, ← f0] at hsc0
    rw [← e0] at hr0 hcc0 hrc0
    obtain ⟨r, hr⟩ : ∃ r, r = (mg ms 0).2.length := ⟨_, rfl⟩
    obtain ⟨c, hc⟩ : ∃ c, c = colsOf (mg ms 0).2 := ⟨_, rfl⟩
    rw [← hr, ← hc] at hsc0
    rw [← hr] at hr0 hrc0
    rw [← hc] at hcc0 hrc0
    have hsc0 : PCall Tryz.prog 52 [.d (md (mg ms 0)), .d (qd (cg l 0))] (.one (.d (md (nm (cmb l ms r c 0))))) := hsc0
    rw [e0, f0] at hsc0
    have hs : ∀ i, i < ms.length → ∀ j, j ≤ i → shp ms (mg ms j) = true := fun i hi j hj => by rw [mg_get (by omega)]; exact hsh _ (List.getElem_mem _)
    have hme : cmbM l ms = cmb l ms r c (ms.length - 1) := by unfold cmbM; rw [← hr, ← hc]
    have hnz := cmb_nz hl hm hlen hr.symm hc.symm (i := ms.length - 1) (by omega) (hs _ (by omega)) (by omega)
    have htd := told14_p _ hnz (by rw [cmb_len]; omega) (cmb_w _ _ _ _ _ (by omega))
    rw [hX2, hme, hz]
    refine .seq (.of_fn hmo ?_)
    simp -implicitDefEqProofs [go_sem]; (repeat refine And.intro (by first | decide +kernel | omega | kernel_rfl) ?_); (try decide +kernel)
    refine .of_fn hmo ?_
    simp -implicitDefEqProofs [go_sem, h0, h0l]; (repeat refine And.intro (by first | decide +kernel | omega | kernel_rfl) ?_); (try decide +kernel)
    refine .inl ⟨_, hsc0, ?_⟩; simp -implicitDefEqProofs [go_sem, h0, h0l]; (repeat refine And.intro (by first | decide +kernel | omega | kernel_rfl) ?_); (try decide +kernel)
    refine loop_rule [] (fun (i : Nat) => ⟨138, [(0, .d (.sl (qes l))), (1, .d (.sl (mes ms))), (4, .d (.v (.bool false))), (5, .pr 32 0 0 0), (6, intP .i64 0), (11, .pr 9036 0 0 0), (12, intP .i64 (i + 1 : Int))], [(9036, .box (mbx (nm (cmb l ms r c i)))), (32, .box (mbx (nm (cmb l ms r c (ms.length - 1)))))], 20000⟩)
      (fun i => i < ms.length) (fun i => ms.length - i) 0 h0 (by simp) (by simp -implicitDefEqProofs [go_sem]) (fun i hi => ?_)
    have g1 := cmb_gm hl hm hlen hr.symm hc.symm hi (hs i hi) (by have := kb_mono l ms (i := i) (j := ms.length - 1) (by omega); omega)
    have l1 : (nm (cmb l ms r c i)).2.length = r := by rw [nm_len]; exact cmb_len _ _ _ _ _
    have w1 : colsOf (nm (cmb l ms r c i)).2 = c := by rw [nm_cols]; exact cmb_cols _ _ _ _ _ (fun h => by rw [hr] at h; rw [hc]; exact cols_zero h)
    have hkbi := kb_mono l ms (i := i) (j := ms.length - 1) (by omega)
    by_cases hil : i + 1 < ms.length
    · have hill : i + 1 < l.length := by omega
      have hzi : (i : Int) + 1 < (ms.length : Int) := by omega
      have hmi := hm _ (List.getElem_mem hil)
      have hxi := hl _ (List.getElem_mem hill)
      have e1 := mg_get hil
      have f1 := cg_get hill
      have hkb := kb_succ l ms i
      have hkb2 := kb_mono l ms (i := i + 1) (j := ms.length - 1) (by omega)
      rw [e1, f1] at hkb
      have hsi := (shE_at hil).1 (hsh _ (List.getElem_mem hil))
      rw [← hr, ← hc] at hsi
      have hsc := scale11_p ms[i + 1] l[i + 1] (hmi.1.gl (check_parts hmi.2).1) ((hmi.1.gmk hmi.2).mono (Nat.le_add_right _ (gq l[i + 1]))) hxi (Nat.le_trans hxi.gq (Nat.le_add_left _ _)) (by omega) (by rw [hsi.1]; omega) (by rw [hsi.1, hsi.2]; omega)
      have g2 := scaleQ_gm2 (hmi.1.gmk hmi.2) hxi.gq (by omega)
      rw [hsi.1, hsi.2] at hsc g2
      have l2 : (nm (scaleQ (valM ms[i + 1]) (ofQ l[i + 1]) r c)).2.length = r := by rw [nm_len]; exact length_tabQ _ _ _
      have w2 : colsOf (nm (scaleQ (valM ms[i + 1]) (ofQ l[i + 1]) r c)).2 = c := by rw [nm_cols]; exact cols_tab0 _ _ _ (fun h => by rw [hr] at h; rw [hc]; exact cols_zero h)
      have g1' := g1.mono (L := kb l ms i + (gk ms[i + 1] + gq l[i + 1] + 2)) (by omega)
      have g2' := g2.mono (L := kb l ms i + (gk ms[i + 1] + gq l[i + 1] + 2)) (by omega)
      have hadd := add11_p _ _ (gl_nm g1 (by omega)) (gl_nm g2 (by omega)) g1' g2' (by omega) (by rw [l1, l2]) (by rw [w1, w2]) (by rw [l1]; omega) (by rw [l1, w1]; omega)
      rw [l1, w1, valM_nm, valM_nm] at hadd
      have e : joinQ (· + ·) (cmb l ms r c i) (scaleQ (valM ms[i + 1]) (ofQ l[i + 1]) r c) r c = cmb l ms r c (i + 1) := by
        rw [← e1, ← f1]; rfl
      rw [e] at hadd
      generalize scaleQ (valM ms[i + 1]) (ofQ l[i + 1]) r c = S at *
      simp -implicitDefEqProofs [go_sem, hzi, hil, hill]; (repeat refine And.intro (by first | decide +kernel | omega | kernel_rfl) ?_); (try decide +kernel)
      refine .inl ⟨_, hsc, ?_⟩; simp -implicitDefEqProofs [go_sem, hil, hill]; (repeat refine And.intro (by first | decide +kernel | omega | kernel_rfl) ?_); (try decide +kernel)
      refine .inl ⟨_, hadd, ?_⟩; simp -implicitDefEqProofs [go_sem]; (repeat refine And.intro (by first | decide +kernel | omega | kernel_rfl) ?_); (try decide +kernel)
      exact ⟨i + 1, by omega, by omega, rfl, rfl, rfl, rfl⟩
    · have hii : i = ms.length - 1 := by omega
      have hzi : ¬ (i : Int) + 1 < (ms.length : Int) := by omega
      rw [← hii] at htd
      rw [← hii]
      simp -implicitDefEqProofs [go_sem, hzi]; (repeat refine And.intro (by first | decide +kernel | omega | kernel_rfl) ?_); (try decide +kernel)
      refine .inl ⟨_, htd, ?_⟩; simp -implicitDefEqProofs [go_sem]; (repeat refine And.intro (by first | decide +kernel | omega | kernel_rfl) ?_); (try decide +kernel)
      refine .inl ⟨_, awake14_p, ?_⟩; simp -implicitDefEqProofs [go_sem]; (repeat refine And.intro (by first | decide +kernel | omega | kernel_rfl) ?_); (try decide +kernel)
  · have hX2 : X = zM := by rw [hX]; unfold cX; rw [if_neg (by rw [← hE]; exact hz)]
    have ht := told14_e E hz
    rw [hX2]
    refine .seq (.of_fn hmo ?_)
    simp -implicitDefEqProofs [go_sem, hz, zM]; (repeat refine And.intro (by first | decide +kernel | omega | kernel_rfl) ?_); (try decide +kernel)
    refine .inl ⟨_, ht, ?_⟩; simp -implicitDefEqProofs [go_sem]; (repeat refine And.intro (by first | decide +kernel | omega | kernel_rfl) ?_); (try decide +kernel)
    refine .inl ⟨_, awake14_p, ?_⟩; simp -implicitDefEqProofs [go_sem]; (repeat refine And.intro (by first | decide +kernel | omega | kernel_rfl) ?_); (try decide +kernel)
end Go.Mt
/-
  A part of the proof.
-/
set_option linter.unusedSimpArgs false
set_option linter.unusedVariables false
namespace Go.Mt
open Go Go.Pm Go.Proofs Go.RowKit Go.ChangeShapes Go.WideShapes Go.ChangeAt
section
variable {H : Type} {enc : TypeId × Value → H} {w : World} {hd : Bool}
def RatsS (l : List QR) (b : Nat) : Prop := RatsM l b ∧ (l.map gq).sum + 1 ≤ b
theorem giv_ratsS {K : Nat} (hK : K < 1099511627776) : Giv K H enc w hd 68 (fun l : List QR => [.sl (qes l)]) RatsS :=
  (giv_list (k := 4) Tryz.underlying68 (by kernel_rfl) (by decide) (fun _ => rfl) (giv_rat hK)).mono fun l b _ h => ⟨.of h, h.sum gq fun x b hx => by
    have := hx.1.2
    unfold gq; omega⟩
def MatsM (ms : List MR) (b : Nat) : Prop := (∀ m ∈ ms, MatM m b) ∧ ms.length + 1 ≤ b ∧ (ms.map gk).sum + 1 ≤ b
theorem MatM.mono {m : MR} {b b' : Nat} (h : MatM m b) (hb : b ≤ b') : MatM m b' := by
  obtain ⟨⟨h1, h2⟩, h3, h4, h5, h6⟩ := h
  exact ⟨⟨h1, by omega⟩, fun r hr p hp => ⟨(h3 r hr p hp).1, by have := (h3 r hr p hp).2; omega⟩, by omega, fun r hr => by have := h5 r hr; omega, by omega⟩
theorem giv_mats {K : Nat} (hK : K < 1099511627776) : Giv K H enc w hd 103 (fun l : List MR => [.sl (mes l)]) MatsM :=
  (giv_list (k := 3) Tryz.underlying103 (by kernel_rfl) (by decide) (fun _ => rfl) (giv_mat hK)).mono fun l b _ h => by
    refine ⟨fun m hm => ?_, h.len (fun m b h => by have := h.2.2.1; omega), h.sum gk fun m b h => gk_le h⟩
    obtain ⟨b', h1, h2⟩ := h.mem m hm
    exact h2.mono (by omega)
end
theorem kb_part (l : List QR) (ms : List MR) (n : Nat) (h1 : n ≤ l.length) (h2 : n ≤ ms.length) : ((List.range n).map fun j => gk (mg ms j) + gq (cg l j) + 2).sum = ((ms.take n).map gk).sum + ((l.take n).map gq).sum + 2 * n := by
  induction n with
  | zero => simp
  | succ n ih =>
    rw [List.range_succ, List.map_append, List.sum_append_nat, ih (by omega) (by omega), List.take_add_one, List.take_add_one, List.getElem?_eq_getElem (show n < ms.length by omega), List.getElem?_eq_getElem (show n < l.length by omega), List.map_append, List.map_append, List.sum_append_nat, List.sum_append_nat]
    simp only [mg_get (show n < ms.length by omega), cg_get (show n < l.length by omega), List.map_cons, List.map_nil, List.sum_cons, List.sum_nil, Option.toList_some]
    omega
theorem combines_a (l : List QR) (ms : List MR) {b0 b1 : Nat} (h0 : RatsS l b0) (h1 : MatsM ms b1) (hb : b0 + b1 ≤ 1048576) : PCall Tryz.prog 10 [.d (.sl (qes l)), .d (.sl (mes ms))] (.one (.d (.v (.bool true)))) := by
  refine combines_p l ms ⟨fun x hx => ?_, ?_, fun m hm => .of (h1.1 m hm) (by omega), by have := h1.2.1; omega, fun hlen => ?_⟩
  · obtain ⟨h2, h3, h4⟩ := h0.1.1 x hx
    exact ⟨h2, by omega, by omega⟩
  · have := h0.1.2; omega
  · by_cases hn : ms.length = 0
    · have e1 : ms = [] := List.eq_nil_of_length_eq_zero hn
      have e2 : l = [] := List.eq_nil_of_length_eq_zero (by omega)
      subst e1 e2
      decide
    · have e : ms.length - 1 + 1 = ms.length := by omega
      unfold kb
      rw [e, kb_part l ms ms.length (by omega) (Nat.le_refl _), List.take_length, take_all hlen]
      have := h0.2
      have := h1.2.2
      have := h1.2.1
      omega
end Go.Mt
/-
  A part of the proof.
-/
set_option linter.unusedSimpArgs false
set_option linter.unusedVariables false
namespace Go.Proofs.YtmhclkagdpbadaaGreat.evalmCombines
open Go.ChangeShapes Go.WideShapes Go.ChangeAt Go.RowKit Go.Pm Go.Mt
theorem own : ownKnob Tryz.prog.godebug = none := by kernel_rfl
set_option maxRecDepth 100000 in
theorem contract (H : Type) (enc : TypeId × Value → H) (W : World) (base : Nat) (args : Array Value) (ds gs : List (DataW H)) (before : List MemPlace)
    (hval : ∀ (j : Nat) t v, Tryz.f10.params[j]? = some t → args[j]? = some v → Value.okWide Tryz.prog W .any base t v)
    (hW : DataW.Whole enc Tryz.prog Tryz.f10.params.toList Rows.evalmCombinesSpec.vars false W args.toList ds gs before) (hk : Rows.uptoSmall H (ds ++ gs) = true) :
    Calls Tryz.prog 10 args W fun e W' => ∃ v, e = .returned v ∧ Rows.evalmCombinesSpec.post enc Tryz.prog Tryz.f10 false true false false W args v W' := by
  have hW' := hW
  obtain ⟨p, q, hA0, hV, rfl, hfz, hnd⟩ := hW
  have hA : DataW.TrodAll enc Tryz.prog W 0 (fun _ => true) true Tryz.f10.params.toList args.toList ds p := hA0
  rw [Tryz.params10] at hA hval
  obtain ⟨v0, vs0, d0, ds0, p0, q0, hargs, rfl, rfl, h0, r0⟩ := trodAll_cons hA
  obtain ⟨v1, vs1, d1, ds1, p1, q1, rfl, rfl, rfl, h1, r1⟩ := trodAll_cons r0
  obtain ⟨rfl, rfl, rfl⟩ := trodAll_nil r1
  obtain rfl : args = #[v0, v1] := by cases args; simp_all
  obtain ⟨rfl, rfl⟩ := trodVars_none hV
  have hb : Rows.uptoBulk d0 + Rows.uptoBulk d1 ≤ 1048576 := by
    have h := of_decide_eq_true hk
    simp only [List.append_nil, Rows.uptoBulkAll] at h
    omega
  have hb0 : Rows.uptoBulk d0 ≤ 1048576 := by omega
  obtain ⟨a0, n0, c0, rfl⟩ := okWide_slice Tryz.underlying68 (hval 0 68 v0 rfl rfl)
  obtain ⟨fuel0, hf0⟩ := h0
  obtain ⟨x0, hr0, hM0⟩ := giv_ratsS (K := 1048576) (by decide) fuel0 _ _ hf0 (fun b o hm => hfz b o (List.mem_append_left _ (List.mem_append_left _ hm))) hb0
  have hb1 : Rows.uptoBulk d1 ≤ 1048576 := by omega
  obtain ⟨a1, n1, c1, rfl⟩ := okWide_slice Tryz.underlying103 (hval 1 103 v1 rfl rfl)
  obtain ⟨fuel1, hf1⟩ := h1
  obtain ⟨x1, hr1, hM1⟩ := giv_mats (K := 1048576) (by decide) fuel1 _ _ hf1 (fun b o hm => hfz b o (List.mem_append_left _ (List.mem_append_right _ (List.mem_append_left _ hm)))) hb1
  have hlaw := combines_a x0 x1 hM0 hM1 hb
  refine law_post (tb := 4) (xs := [.d (.sl (qes x0)), .d (.sl (mes x1))]) hW' rfl (by kernel_rfl) (by rw [Tryz.params10]; intro t ht; simp at ht; first | (subst ht; exact ⟨by kernel_rfl, of_decide_eq_true (by kernel_rfl)⟩) | (rcases ht with rfl | rfl <;> exact ⟨by kernel_rfl, of_decide_eq_true (by kernel_rfl)⟩)) Tryz.underlying4 (by kernel_rfl) (fun H ds hd => ?_) hlaw rfl (fun j p v h1 h2 => ?_)
  · match ds, hd with
    | [e0, e1], _ => exact ⟨rfl, rfl, rfl⟩
  · cases j with
    | zero => cases h1; cases h2; exact .d (RdC.slice hr0)
    | succ j =>
      cases j with
      | zero => cases h1; cases h2; exact .d (RdC.slice hr1)
      | succ j =>
        cases h1
end Go.Proofs.YtmhclkagdpbadaaGreat.evalmCombines
/-
  A part of the proof.
-/
set_option linter.unusedSimpArgs false
set_option linter.unusedVariables false
namespace Go.Proofs.YtmhclkagdpbadaaGreat.evalmCombines
open Go.ChangeShapes Go.WideShapes Go.ChangeAt Go.RowKit Go.Pm Go.Mt
set_option maxRecDepth 100000 in
theorem lifted (os : Os) (started : os.Started) (H : Type) (enc : TypeId × Value → H) (F : Stop.Interp) :
    ReturnsInHanded {} Tryz.checked os 10 .any ((Rows.OpenSpec.upto Rows.evalmCombinesSpec).pre6 enc Tryz.prog Tryz.f10 Rows.evalmCombinesUptoRow.domain false) (((Rows.OpenSpec.upto Rows.evalmCombinesSpec).at F).post enc Tryz.prog Tryz.f10 false true false false) := by
  refine returnsInHanded_of_cond (C := Tryz.checked) (s := (Rows.OpenSpec.upto Rows.evalmCombinesSpec)) (k := Rows.uptoSmall) rfl own started (by kernel_rfl) Tryz.func10
    (OpenSpec.witness (enc := enc) (C := Tryz.checked) (s := (Rows.OpenSpec.upto Rows.evalmCombinesSpec)) (k := Rows.uptoSmall) rfl false ⟨#[], #[.slice none 0 0, .slice none 0 0], []⟩ 8 (by kernel_rfl) (by kernel_rfl) (by kernel_rfl)
      (x := ([.nil, .nil], [], [])) (by kernel_rfl) rfl (by kernel_rfl)) ?_
  intro W base args ds gs before hval hW _ hk _
  exact contract H enc W base args ds gs before hval hW hk
end Go.Proofs.YtmhclkagdpbadaaGreat.evalmCombines
