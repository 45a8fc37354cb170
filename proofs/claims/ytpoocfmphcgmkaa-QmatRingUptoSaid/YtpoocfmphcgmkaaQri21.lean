/-
  A part of the proof.
-/
import Derived.Test.YtpoocfmphcgmkaaQri20
import Derived.Test.YtpoocfmphcgmkaaQri11
set_option linter.unusedVariables false
set_option linter.unusedSimpArgs false
set_option linter.unusedSimpArgs false
set_option linter.unusedVariables false
namespace Go.Mt
open Go Go.Pm Go.Proofs
theorem same01_p (l m : List Nat) (hln : l.length < 1099511627776) (hmn : m.length < 1099511627776) : PCall Try.prog 56 [.d (.sl (les l)), .d (.sl (les m))] (.one (.d (.v (.bool (decide (l = m)))))) := by
  by_cases hl : l.length = m.length
  · refine pcall_of hmo Try.func56 rfl (by kernel_rfl) (by simp [Try.ntmps56]) ?_; simp -implicitDefEqProofs [go_sem, Try.ntmps56]; (repeat refine And.intro (by first | decide +kernel | omega | kernel_rfl) ?_); (try decide +kernel)
    simp -implicitDefEqProofs [go_sem, hl]; (repeat refine And.intro (by first | decide +kernel | omega | kernel_rfl) ?_); (try decide +kernel)
    refine loop_rule [] (fun (k : Nat) => ⟨26, [(0, .d (.sl (les l))), (1, .d (.sl (les m))), (4, .d (.v (.bool false))), (12, intP .i64 (m.length : Int)), (13, intP .i64 (k : Int))], [], 3000⟩)
      (fun k => k ≤ m.length ∧ l.take k = m.take k) (fun k => m.length - k) 0 ⟨Nat.zero_le _, by simp⟩ (by simp) (by simp -implicitDefEqProofs [go_sem]) (fun k ⟨hk, he⟩ => ?_)
    by_cases hkl : k < m.length
    · have hkl2 : k < l.length := by omega
      by_cases hx : l[k] = m[k]
      · have h2 : l.take (k + 1) = m.take (k + 1) := by
          rw [List.take_add_one, List.take_add_one, he, List.getElem?_eq_getElem hkl, List.getElem?_eq_getElem hkl2, hx]
        simp -implicitDefEqProofs [go_sem, hkl, hkl2, ud, hx]; (repeat refine And.intro (by first | decide +kernel | omega | kernel_rfl) ?_); (try decide +kernel)
        refine ⟨k + 1, ?_⟩; (repeat' apply And.intro) <;> first | omega | assumption | rfl
      · have hxz : ¬ ((l[k] : Nat) : Int) = ((m[k] : Nat) : Int) := by omega
        have hne : ¬ l = m := fun e => hx (by subst e; rfl)
        have e2 : decide (l = m) = false := decide_eq_false hne
        rw [e2]
        simp -implicitDefEqProofs [go_sem, hkl, hkl2, ud, hx, hxz]; (repeat refine And.intro (by first | decide +kernel | omega | kernel_rfl) ?_); (try decide +kernel)
    · obtain rfl : k = m.length := by omega
      have e : l = m := by rw [take_all hl, take_all rfl] at he; exact he
      have e2 : decide (l = m) = true := decide_eq_true e
      rw [e2]
      simp -implicitDefEqProofs [go_sem]; (repeat refine And.intro (by first | decide +kernel | omega | kernel_rfl) ?_); (try decide +kernel)
  · have hz : ¬ ((l.length : Nat) : Int) = ((m.length : Nat) : Int) := by omega
    have hne : ¬ l = m := fun e => hl (by rw [e])
    have e2 : decide (l = m) = false := decide_eq_false hne
    rw [e2]
    refine pcall_of hmo Try.func56 rfl (by kernel_rfl) (by simp [Try.ntmps56]) ?_; simp -implicitDefEqProofs [go_sem, Try.ntmps56]; (repeat refine And.intro (by first | decide +kernel | omega | kernel_rfl) ?_); (try decide +kernel)
    simp -implicitDefEqProofs [go_sem, hl, hz]; (repeat refine And.intro (by first | decide +kernel | omega | kernel_rfl) ?_); (try decide +kernel)
end Go.Mt
