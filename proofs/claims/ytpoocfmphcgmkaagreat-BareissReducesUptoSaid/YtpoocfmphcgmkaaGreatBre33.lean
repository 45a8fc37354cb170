/-
  A part of the proof.
-/
import Derived.Test.YtpoocfmphcgmkaaGreatBre32
import Derived.Test.YtpoocfmphcgmkaaGreatBre22
set_option linter.unusedVariables false
set_option linter.unusedSimpArgs false
set_option linter.unusedSimpArgs false
set_option linter.unusedVariables false
namespace Go.Mt
open Go Go.Pm Go.Proofs
def Lz (p : ZR) : Prop := p.2.length < 1099511627776
theorem same11_p (a b : MR) (ha : Lz a.1) (hb : Lz b.1) (ha2 : ∀ r ∈ a.2, ∀ z ∈ r, Lz z) (hb2 : ∀ r ∈ b.2, ∀ z ∈ r, Lz z) (hal : ∀ r ∈ a.2, r.length < 1099511627776) (hbl : ∀ r ∈ b.2, r.length < 1099511627776) (han : a.2.length < 1099511627776) (hbn : b.2.length < 1099511627776) :
    PCall Tryz.prog 98 [.d (md a), .d (md b)] (.one (.d (.v (.bool (decide (a = b)))))) := by
  have h1 := same3_p a.1 b.1 ha hb
  by_cases e1 : a.1 = b.1
  · rw [decide_eq_true e1] at h1
    by_cases hl : a.2.length = b.2.length
    · refine pcall_of hmo Tryz.func98 rfl (by kernel_rfl) (by simp [Tryz.ntmps98]) ?_; simp -implicitDefEqProofs [go_sem, Tryz.ntmps98]; (repeat refine And.intro (by first | decide +kernel | omega | kernel_rfl) ?_); (try decide +kernel)
      refine .inl ⟨_, h1, ?_⟩; simp -implicitDefEqProofs [go_sem, hl]; (repeat refine And.intro (by first | decide +kernel | omega | kernel_rfl) ?_); (try decide +kernel)
      refine loop_rule [] (fun (k : Nat) => ⟨40, [(2, .pr 0 0 0 0), (3, .pr 4 0 0 0), (4, .d (.v (.bool false))), (23, intP .i64 (b.2.length : Int)), (24, intP .i64 (k : Int))], [(0, .box (mbx a)), (4, .box (mbx b))], 1000⟩)
        (fun k => k ≤ b.2.length ∧ a.2.take k = b.2.take k) (fun k => b.2.length - k) 0 ⟨Nat.zero_le _, by simp⟩ (by simp) (by simp -implicitDefEqProofs [go_sem]) (fun k ⟨hk, he⟩ => ?_)
      by_cases hkl : k < b.2.length
      · have hkl2 : k < a.2.length := by omega
        have hs := sameAll3_p a.2[k] b.2[k] (ha2 _ (List.getElem_mem _)) (hb2 _ (List.getElem_mem _)) (hal _ (List.getElem_mem _)) (hbl _ (List.getElem_mem _))
        by_cases hx : a.2[k] = b.2[k]
        · have h2 : a.2.take (k + 1) = b.2.take (k + 1) := by
            rw [List.take_add_one, List.take_add_one, he, List.getElem?_eq_getElem hkl, List.getElem?_eq_getElem hkl2, hx]
          rw [decide_eq_true hx] at hs
          simp -implicitDefEqProofs [go_sem, hkl, hkl2]; (repeat refine And.intro (by first | decide +kernel | omega | kernel_rfl) ?_); (try decide +kernel)
          refine .inl ⟨_, hs, ?_⟩; simp -implicitDefEqProofs [go_sem, hkl, hkl2]; (repeat refine And.intro (by first | decide +kernel | omega | kernel_rfl) ?_); (try decide +kernel)
          refine ⟨k + 1, ?_⟩; (repeat' apply And.intro) <;> first | omega | assumption | rfl
        · have hne : ¬ a = b := fun e => hx (by subst e; rfl)
          have e2 : decide (a = b) = false := decide_eq_false hne
          rw [e2]
          rw [decide_eq_false hx] at hs
          simp -implicitDefEqProofs [go_sem, hkl, hkl2]; (repeat refine And.intro (by first | decide +kernel | omega | kernel_rfl) ?_); (try decide +kernel)
          refine .inl ⟨_, hs, ?_⟩; simp -implicitDefEqProofs [go_sem, hkl, hkl2]; (repeat refine And.intro (by first | decide +kernel | omega | kernel_rfl) ?_); (try decide +kernel)
      · obtain rfl : k = b.2.length := by omega
        have e : a.2 = b.2 := by rw [take_all hl, take_all rfl] at he; exact he
        have e2 : decide (a = b) = true := decide_eq_true (Prod.ext e1 e)
        rw [e2]
        simp -implicitDefEqProofs [go_sem]; (repeat refine And.intro (by first | decide +kernel | omega | kernel_rfl) ?_); (try decide +kernel)
    · have hz : ¬ ((a.2.length : Nat) : Int) = ((b.2.length : Nat) : Int) := by omega
      have hne : ¬ a = b := fun e => hl (by rw [e])
      have e2 : decide (a = b) = false := decide_eq_false hne
      rw [e2]
      refine pcall_of hmo Tryz.func98 rfl (by kernel_rfl) (by simp [Tryz.ntmps98]) ?_; simp -implicitDefEqProofs [go_sem, Tryz.ntmps98]; (repeat refine And.intro (by first | decide +kernel | omega | kernel_rfl) ?_); (try decide +kernel)
      refine .inl ⟨_, h1, ?_⟩; simp -implicitDefEqProofs [go_sem, hl, hz]; (repeat refine And.intro (by first | decide +kernel | omega | kernel_rfl) ?_); (try decide +kernel)
  · have hne : ¬ a = b := fun e => e1 (by rw [e])
    have e2 : decide (a = b) = false := decide_eq_false hne
    rw [e2]
    rw [decide_eq_false e1] at h1
    refine pcall_of hmo Tryz.func98 rfl (by kernel_rfl) (by simp [Tryz.ntmps98]) ?_; simp -implicitDefEqProofs [go_sem, Tryz.ntmps98]; (repeat refine And.intro (by first | decide +kernel | omega | kernel_rfl) ?_); (try decide +kernel)
    refine .inl ⟨_, h1, ?_⟩; simp -implicitDefEqProofs [go_sem]; (repeat refine And.intro (by first | decide +kernel | omega | kernel_rfl) ?_); (try decide +kernel)
end Go.Mt
