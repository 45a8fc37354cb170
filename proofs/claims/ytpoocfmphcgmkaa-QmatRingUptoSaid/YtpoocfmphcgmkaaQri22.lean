/-
  A part of the proof.
-/
import Derived.Test.YtpoocfmphcgmkaaQri18
import Derived.Test.YtpoocfmphcgmkaaQri21
import Derived.Test.YtpoocfmphcgmkaaQri12
set_option linter.unusedVariables false
set_option linter.unusedSimpArgs false
set_option linter.unusedSimpArgs false
set_option linter.unusedVariables false
namespace Go.Mt
open Go Go.Pm Go.Proofs
theorem sign3_p (p : ZR) (hp : Rz p) : PCall Try.prog 15 [.d (zd p)] (.one (.d (.v (.int .i64 (ofR p).sign)))) := by
  obtain ⟨b, l⟩ := p
  have h2 : l.length < 1099511627776 := hp.2
  have hz := rzero_p l hp.1 (by omega)
  have hv := ival_zero (p := (b, l))
  by_cases h0 : val l = 0
  · have e : ofR (b, l) = 0 := by unfold ofR ival; rw [h0]; cases b <;> rfl
    have e2 : decide (val l = 0) = true := decide_eq_true h0
    rw [e]
    rw [e2] at hz
    refine pcall_of hmo Try.func15 rfl (by kernel_rfl) (by simp [Try.ntmps15]) ?_; simp -implicitDefEqProofs [go_sem, Try.ntmps15]; (repeat refine And.intro (by first | decide +kernel | omega | kernel_rfl) ?_); (try decide +kernel)
    refine .inl ⟨_, hz, ?_⟩; simp -implicitDefEqProofs [go_sem]; (repeat refine And.intro (by first | decide +kernel | omega | kernel_rfl) ?_); (try decide +kernel)
  · have e2 : decide (val l = 0) = false := decide_eq_false h0
    rw [e2] at hz
    cases b with
    | true =>
      have e : (ofR (true, l)).sign = -1 := Int.sign_eq_neg_one_of_neg (by unfold ofR ival; simp; omega)
      rw [e]
      refine pcall_of hmo Try.func15 rfl (by kernel_rfl) (by simp [Try.ntmps15]) ?_; simp -implicitDefEqProofs [go_sem, Try.ntmps15]; (repeat refine And.intro (by first | decide +kernel | omega | kernel_rfl) ?_); (try decide +kernel)
      refine .inl ⟨_, hz, ?_⟩; simp -implicitDefEqProofs [go_sem]; (repeat refine And.intro (by first | decide +kernel | omega | kernel_rfl) ?_); (try decide +kernel)
    | false =>
      have e : (ofR (false, l)).sign = 1 := Int.sign_eq_one_of_pos (by unfold ofR ival; simp; omega)
      rw [e]
      refine pcall_of hmo Try.func15 rfl (by kernel_rfl) (by simp [Try.ntmps15]) ?_; simp -implicitDefEqProofs [go_sem, Try.ntmps15]; (repeat refine And.intro (by first | decide +kernel | omega | kernel_rfl) ?_); (try decide +kernel)
      refine .inl ⟨_, hz, ?_⟩; simp -implicitDefEqProofs [go_sem]; (repeat refine And.intro (by first | decide +kernel | omega | kernel_rfl) ?_); (try decide +kernel)
end Go.Mt
