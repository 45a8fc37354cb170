/-
  A part of the proof.
-/
import Derived.Test.YtpoocfmphcgmkaaQri11
import Derived.Test.YtpoocfmphcgmkaaQri19
import Derived.Test.YtpoocfmphcgmkaaQri15
import Derived.Test.YtpoocfmphcgmkaaQri1
set_option linter.unusedVariables false
set_option linter.unusedSimpArgs false
set_option linter.unusedSimpArgs false
set_option linter.unusedVariables false
namespace Go.Mt
open Go Go.Pm Go.Proofs
theorem rzero_p (l : List Nat) (hl : Small l) (hn : l.length < 4398046511104) : PCall Try.prog 38 [.d (.sl (les l))] (.one (.d (.v (.bool (decide (val l = 0)))))) := by
  refine pcall_of hmo Try.func38 rfl (by kernel_rfl) (by simp [Try.ntmps38]) ?_; simp -implicitDefEqProofs [go_sem, Try.ntmps38]; (repeat refine And.intro (by first | decide +kernel | omega | kernel_rfl) ?_); (try decide +kernel)
  refine loop_rule [] (fun (k : Nat) => ⟨14, [(2, .d (.v (.bool false))), (5, .d (.sl (les l))), (6, intP .i64 (l.length : Int)), (7, intP .i64 (k : Int))], [], 1000⟩)
    (fun k => k ≤ l.length ∧ allK (fun x => decide (x = 0)) l k) (fun k => l.length - k) 0 ⟨Nat.zero_le _, allK_zero _ _⟩ (by simp) (by simp -implicitDefEqProofs [go_sem]) (fun k ⟨hk, ha⟩ => ?_)
  by_cases hkl : k < l.length
  · by_cases h0 : l[k] = 0
    · have h2 : allK (fun x : Nat => decide (x = 0)) l (k + 1) := allK_succ hkl ha (decide_eq_true h0)
      simp -implicitDefEqProofs [go_sem, hkl, ud, h0]; (repeat refine And.intro (by first | decide +kernel | omega | kernel_rfl) ?_); (try decide +kernel)
      refine ⟨k + 1, ?_⟩; (repeat' apply And.intro) <;> first | omega | assumption | rfl
    · have h0z : ¬ ((l[k] : Nat) : Int) = 0 := by omega
      have hv : ¬ val l = 0 := fun e => h0 (by
        have := val_split_at (l := l) (j := k) hkl
        rw [e, List.getElem?_eq_getElem hkl] at this
        have h1 : 0 < 4294967296 ^ k := Nat.pow_pos (by decide)
        rcases Nat.eq_zero_or_pos l[k] with h | h
        · exact h
        · exfalso
          have h3 : 4294967296 ^ k * 1 ≤ 4294967296 ^ k * ((some l[k]).getD 0 + 4294967296 * val (l.drop (k + 1))) := Nat.mul_le_mul_left _ (by show 1 ≤ l[k] + _; omega)
          omega)
      simp -implicitDefEqProofs [go_sem, hkl, ud, h0, h0z]; (repeat refine And.intro (by first | decide +kernel | omega | kernel_rfl) ?_); (try decide +kernel)
      simp -implicitDefEqProofs [go_sem, hv]; (repeat refine And.intro (by first | decide +kernel | omega | kernel_rfl) ?_); (try decide +kernel)
  · obtain rfl : k = l.length := by omega
    have hv : val l = 0 := val_eq_zero fun x hx => by
      have := allK_all ha
      rw [List.all_eq_true] at this
      exact of_decide_eq_true (this x hx)
    simp -implicitDefEqProofs [go_sem, hv]; (repeat refine And.intro (by first | decide +kernel | omega | kernel_rfl) ?_); (try decide +kernel)
end Go.Mt
