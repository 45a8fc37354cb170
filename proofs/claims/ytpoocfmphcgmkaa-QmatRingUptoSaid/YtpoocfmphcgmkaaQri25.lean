/-
  A part of the proof.
-/
import Derived.Test.YtpoocfmphcgmkaaQri22
import Derived.Test.YtpoocfmphcgmkaaQri24
set_option linter.unusedVariables false
set_option linter.unusedSimpArgs false
set_option linter.unusedSimpArgs false
set_option linter.unusedVariables false
namespace Go.Mt
open Go Go.Pm Go.Proofs
theorem rz_len (z : Int) : (nrm z).2.length = zl z := length_limbs _
set_option maxRecDepth 100000 in
theorem same3_p (p q : ZR) (hp : p.2.length < 1099511627776) (hq : q.2.length < 1099511627776) : PCall Try.prog 37 [.d (zd p), .d (zd q)] (.one (.d (.v (.bool (decide (p = q)))))) := by
  obtain ⟨b, l⟩ := p
  obtain ⟨c, m⟩ := q
  have hs := same01_p l m hp hq
  by_cases hbc : b = c
  · subst hbc
    have e : decide ((b, l) = (b, m)) = decide (l = m) := by simp
    rw [e]
    refine pcall_of hmo Try.func37 rfl (by kernel_rfl) (by simp [Try.ntmps37]) ?_; simp -implicitDefEqProofs [go_sem, Try.ntmps37]; (repeat refine And.intro (by first | decide +kernel | omega | kernel_rfl) ?_); (try decide +kernel)
    refine .inl ⟨_, hs, ?_⟩; simp -implicitDefEqProofs [go_sem]; (repeat refine And.intro (by first | decide +kernel | omega | kernel_rfl) ?_); (try decide +kernel)
  · have e : decide ((b, l) = (c, m)) = false := by simp [hbc]
    have hbc' : (b == c) = false := by simpa using hbc
    rw [e]
    refine pcall_of hmo Try.func37 rfl (by kernel_rfl) (by simp [Try.ntmps37]) ?_; simp -implicitDefEqProofs [go_sem, Try.ntmps37]; (repeat refine And.intro (by first | decide +kernel | omega | kernel_rfl) ?_); (try decide +kernel)
    simp -implicitDefEqProofs [go_sem, hbc, hbc']; (repeat refine And.intro (by first | decide +kernel | omega | kernel_rfl) ?_); (try decide +kernel)
end Go.Mt
/-
  A part of the proof.
-/
set_option linter.unusedSimpArgs false
set_option linter.unusedVariables false
namespace Go.Mt
open Go Go.Pm Go.Proofs
theorem same5_p (x y : QR) (hx : x.1.2.length < 1099511627776 ∧ x.2.2.length < 1099511627776) (hy : y.1.2.length < 1099511627776 ∧ y.2.2.length < 1099511627776) : PCall Try.prog 14 [.d (qd x), .d (qd y)] (.one (.d (.v (.bool (decide (x = y)))))) := by
  have h1 := same3_p x.1 y.1 hx.1 hy.1
  have h2 := same3_p x.2 y.2 hx.2 hy.2
  by_cases e1 : x.1 = y.1
  · rw [decide_eq_true e1] at h1
    have e : decide (x = y) = decide (x.2 = y.2) := by
      by_cases e2 : x.2 = y.2 <;> simp [Prod.ext_iff, e1, e2]
    rw [e]
    refine pcall_of hmo Try.func14 rfl (by kernel_rfl) (by simp [Try.ntmps14]) ?_; simp -implicitDefEqProofs [go_sem, Try.ntmps14]; (repeat refine And.intro (by first | decide +kernel | omega | kernel_rfl) ?_); (try decide +kernel)
    refine .inl ⟨_, h1, ?_⟩; simp -implicitDefEqProofs [go_sem]; (repeat refine And.intro (by first | decide +kernel | omega | kernel_rfl) ?_); (try decide +kernel)
    refine .inl ⟨_, h2, ?_⟩; simp -implicitDefEqProofs [go_sem]; (repeat refine And.intro (by first | decide +kernel | omega | kernel_rfl) ?_); (try decide +kernel)
  · rw [decide_eq_false e1] at h1
    have e : decide (x = y) = false := by simp [Prod.ext_iff, e1]
    rw [e]
    refine pcall_of hmo Try.func14 rfl (by kernel_rfl) (by simp [Try.ntmps14]) ?_; simp -implicitDefEqProofs [go_sem, Try.ntmps14]; (repeat refine And.intro (by first | decide +kernel | omega | kernel_rfl) ?_); (try decide +kernel)
    refine .inl ⟨_, h1, ?_⟩; simp -implicitDefEqProofs [go_sem]; (repeat refine And.intro (by first | decide +kernel | omega | kernel_rfl) ?_); (try decide +kernel)
end Go.Mt
/-
  A part of the proof.
-/
set_option linter.unusedSimpArgs false
set_option linter.unusedVariables false
namespace Go.Mt
open Go Go.Pm Go.Proofs
def hs2 (q : Rat) : Nat → Nat
  | 0 => 0
  | 1 => blen q.num.natAbs
  | _ => max (blen q.num.natAbs) (blen q.den)
end Go.Mt
/-
  A part of the proof.
-/
set_option linter.unusedSimpArgs false
set_option linter.unusedVariables false
namespace Go.Mt
open Go Go.Pm Go.Proofs
/-- a fraction that means something, as it came -/
structure Lq (x : QR) : Prop where
  rq : Rq x
  ne : ofR x.2 ≠ 0
  l1 : x.1.2.length < 8589934592
  l2 : x.2.2.length < 8589934592
theorem Lq.ql {x : QR} (h : Lq x) : ql (ofQ x) < 8589934592 := by
  have := ql_ratv (ofR x.1) (ofR x.2) h.ne
  have := zl_ofR h.rq.1
  have := zl_ofR h.rq.2
  have := h.l1
  have := h.l2
  unfold ofQ
  omega
theorem Lq.n {q : Rat} (h : Go.Mt.ql q < 8589934592) : Lq (nq q) := by
  have := ql_num q; have := ql_den q
  exact ⟨Go.Mt.rq (by omega), by show ofR (nrm _) ≠ 0; rw [ofR_nrm]; exact den_ne q, by show (nrm _).2.length < _; rw [rz_len]; omega, by show (nrm _).2.length < _; rw [rz_len]; omega⟩
end Go.Mt
