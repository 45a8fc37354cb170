/-
  A part of the proof.
-/
import Derived.Test.YtmhclkagdpbadaaGreatEtr19
set_option linter.unusedVariables false
set_option linter.unusedSimpArgs false
set_option linter.unusedSimpArgs false
set_option linter.unusedVariables false
namespace Go.Mt
open Go Go.Pm Go.Proofs
/-- the divisor added back -/
theorem back_ok {s m tp nx q j n : Nat} {R U O : List Nat} {C : List (Nat × PV)} (hRl : R.length = m + 1) (hsR : Small R) (hU : Small U) (hUl : U.length = n + 1) (hn : n < 1099511627776) (hjm : j + (m + 1) < n + 1)
    {K : Exit → St → Prop}
    (hK : ∀ (c : Nat) (U' : List Nat) (σ' : St), c ≤ 1 → U'.length = n + 1 → Small U' → U'.drop (j + (m + 1)) = U.drop (j + (m + 1)) → val U' + 4294967296 ^ (j + (m + 1)) * c = val U + 4294967296 ^ j * val R →
      Sub ⟨239, (16, intP .u64 (q : Int)) :: (24, intP .u64 (c : Int)) :: kSlots s m tp nx (j : Int), kHeap R U' O, 7000⟩ σ' → σ'.n ≤ 7000 → K .normal σ')
    (σ : St) (hσ : Sub ⟨239, (185, intP .i64 0) :: (184, intP .i64 ((m : Int) + 1)) :: (16, intP .u64 (q : Int)) :: (24, intP .u64 0) :: kSlots s m tp nx (j : Int), kHeap R U O, 6000⟩ σ) (hσn : σ.n ≤ 6000) :
    SC Tryz.prog false noM.Y (.block 6 (loopN Tryz.f275 3)) K σ := by
  show SC Tryz.prog false noM.Y (.block 6 (.loop _)) K _
  refine .block (.loopI [] (fun (p : Nat × Nat × List Nat) => ⟨239, (185, intP .i64 (p.1 : Int)) :: (184, intP .i64 ((m : Int) + 1)) :: (16, intP .u64 (q : Int)) :: (24, intP .u64 (p.2.1 : Int)) :: kSlots s m tp nx (j : Int), kHeap R p.2.2 O, 6000⟩)
    (fun p => p.1 ≤ m + 1 ∧ p.2.1 ≤ 1 ∧ p.2.2.length = n + 1 ∧ Small p.2.2 ∧ p.2.2.drop (j + (m + 1)) = U.drop (j + (m + 1)) ∧ val p.2.2 + 4294967296 ^ (j + p.1) * p.2.1 = val U + 4294967296 ^ j * val (R.take p.1)) (fun p => m + 1 - p.1) (0, 0, U)
    ⟨Nat.zero_le _, Nat.zero_le _, hUl, hU, rfl, by simp [val]⟩ (fun _ _ => hσn) hσ (fun ⟨i, c, V⟩ ⟨b1, b2, b4, b5, b6, b7⟩ => ?_))
  dsimp only at b1 b2 b4 b5 b6 b7 ⊢
  refine .seq (.of_fn hmo ?_)
  by_cases hi : i < m + 1
  · have hi' : (i : Int) < (m : Int) + 1 := by omega
    have hRi : (les R)[i]? = some [ud (R[i]?.getD 0)] := les_get (by omega)
    have hVi : (les V)[i + j]? = some [ud (V[i + j]?.getD 0)] := les_get (by omega)
    have r1 := hsR.get i
    have v1 := b5.get (i + j)
    obtain ⟨vi, hvi⟩ : ∃ vi, R[i]?.getD 0 = vi := ⟨_, rfl⟩
    obtain ⟨ui, hui⟩ : ∃ ui, V[i + j]?.getD 0 = ui := ⟨_, rfl⟩
    rw [hvi] at hRi r1
    rw [hui] at hVi v1
    have e1 : (vi : Int) % 18446744073709551616 = vi := by omega
    have e5 : (ui : Int) % 18446744073709551616 = ui := by omega
    have e4 : ((i : Int) + j).toNat = i + j := by omega
    obtain ⟨d, hd⟩ : ∃ d : Nat, d = ui + vi + c := ⟨_, rfl⟩
    have e6 : (((ui : Int) + vi) % 18446744073709551616 + c) % 18446744073709551616 = (d : Int) := by omega
    obtain ⟨limb, hlimb⟩ : ∃ limb, limb = d % 4294967296 := ⟨_, rfl⟩
    obtain ⟨cc, hcc⟩ : ∃ cc, cc = d / 4294967296 := ⟨_, rfl⟩
    have e8 : (d : Int) % 4294967296 = (limb : Int) := by omega
    have e9 : (d : Int) / 4294967296 = (cc : Int) := by omega
    simp -implicitDefEqProofs [go_sem, hi']; (repeat refine And.intro (by first | decide +kernel | omega | kernel_rfl) ?_); (try decide +kernel)
    refine .seq (.of_fn hmo ?_); simp -implicitDefEqProofs [go_sem]; (repeat refine And.intro (by first | decide +kernel | omega | kernel_rfl) ?_); (try decide +kernel)
    refine .seq (.block (.seq (.of_fn hmo ?_))); simp -implicitDefEqProofs [go_sem]; (repeat refine And.intro (by first | decide +kernel | omega | kernel_rfl) ?_); (try decide +kernel)
    refine .seq (.of_fn hmo ?_); simp -implicitDefEqProofs [go_sem, hRi, hVi, ud, e1, e4, e5, e6]; (repeat refine And.intro (by first | decide +kernel | omega | kernel_rfl) ?_); (try decide +kernel)
    refine .seq (.of_fn hmo ?_); simp -implicitDefEqProofs [go_sem, e4, e8, hVi, ud]; (repeat refine And.intro (by first | decide +kernel | omega | kernel_rfl) ?_); (try decide +kernel)
    refine .of_fn hmo ?_; simp -implicitDefEqProofs [go_sem, e9]; (repeat refine And.intro (by first | decide +kernel | omega | kernel_rfl) ?_); (try decide +kernel)
    refine .of_fn hmo ?_; simp -implicitDefEqProofs [go_sem]; (repeat refine And.intro (by first | decide +kernel | omega | kernel_rfl) ?_); (try decide +kernel)
    have hR1 : (les V).set (i + j) [D.v (.int .u32 (limb : Int))] = les (V.set (i + j) limb) := les_set _ _ _
    rw [hR1]
    have hr := back_round (by omega) b7 hvi (show V[j + i]?.getD 0 = ui by rw [Nat.add_comm]; exact hui)
    rw [← hd, ← hlimb, ← hcc, Nat.add_comm j i] at hr
    refine ⟨i + 1, cc, V.set (i + j) limb, ⟨by omega, by omega, by simp; omega, b5.set _ (by omega), ?_, hr⟩, by omega, ⟨by omega, rfl⟩, rfl⟩
    rw [drop_set_lt (by omega), b6]
  · have hi' : ¬ (i : Int) < (m : Int) + 1 := by omega
    have hie : i = m + 1 := by omega
    subst hie
    simp -implicitDefEqProofs [go_sem, hi']; (repeat refine And.intro (by first | decide +kernel | omega | kernel_rfl) ?_); (try decide +kernel)
    refine .seq (.of_fn hmo ?_); simp -implicitDefEqProofs [go_sem]; (repeat refine And.intro (by first | decide +kernel | omega | kernel_rfl) ?_); (try decide +kernel)
    refine hK c V _ b2 b4 b5 b6 ?_ ?_ ?_
    · rw [List.take_of_length_le (by omega)] at b7
      exact b7
    · simp -implicitDefEqProofs [go_sem]
    · simp
end Go.Mt
