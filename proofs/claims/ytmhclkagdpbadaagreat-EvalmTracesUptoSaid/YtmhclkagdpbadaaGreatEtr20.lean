/-
  A part of the proof.
-/
import Derived.Test.YtmhclkagdpbadaaGreatEtr19
set_option linter.unusedVariables false
set_option linter.unusedSimpArgs false
set_option linter.unusedSimpArgs false
set_option linter.unusedVariables false
namespace Go.Mt
open Go Go.Pm Go.Proofs
set_option maxHeartbeats 1000000 in
/-- a digit times the divisor taken off the dividend -/
theorem mulsub_ok {s m tp nx q j n : Nat} {R U O : List Nat} (hRl : R.length = m + 1) (hsR : Small R) (hU : Small U) (hUl : U.length = n + 1) (hn : n < 1099511627776) (hjm : j + (m + 1) < n + 1) (hq : q < 4294967296)
    {K : Exit → St → Prop}
    (hK : ∀ (ca bw : Nat) (U' : List Nat) (σ' : St), ca < 4294967296 → bw ≤ 1 → U'.length = n + 1 → Small U' → U'.drop (j + (m + 1)) = U.drop (j + (m + 1)) → val U' + 4294967296 ^ j * (q * val R) = val U + 4294967296 ^ (j + (m + 1)) * (ca + bw) →
      Sub ⟨239, (16, intP .u64 (q : Int)) :: (18, intP .u64 (bw : Int)) :: (19, intP .u64 (ca : Int)) :: kSlots s m tp nx (j : Int), kHeap R U' O, 5000⟩ σ' → σ'.n ≤ 5000 → K .normal σ')
    (σ : St) (hσ : Sub ⟨239, (125, intP .i64 0) :: (124, intP .i64 ((m : Int) + 1)) :: (16, intP .u64 (q : Int)) :: (18, intP .u64 0) :: (19, intP .u64 0) :: kSlots s m tp nx (j : Int), kHeap R U O, 4000⟩ σ) (hσn : σ.n ≤ 4000) :
    SC Tryz.prog false noM.Y (.block 4 (loopN Tryz.f275 2)) K σ := by
  show SC Tryz.prog false noM.Y (.block 4 (.loop _)) K _
  refine .block (.loopI [] (fun (p : Nat × Nat × Nat × List Nat) => ⟨239, (125, intP .i64 (p.1 : Int)) :: (124, intP .i64 ((m : Int) + 1)) :: (16, intP .u64 (q : Int)) :: (18, intP .u64 (p.2.1 : Int)) :: (19, intP .u64 (p.2.2.1 : Int)) :: kSlots s m tp nx (j : Int), kHeap R p.2.2.2 O, 4000⟩)
    (fun p => p.1 ≤ m + 1 ∧ p.2.1 ≤ 1 ∧ p.2.2.1 < 4294967296 ∧ p.2.2.2.length = n + 1 ∧ Small p.2.2.2 ∧ p.2.2.2.drop (j + (m + 1)) = U.drop (j + (m + 1)) ∧ val p.2.2.2 + 4294967296 ^ j * (q * val (R.take p.1)) = val U + 4294967296 ^ (j + p.1) * (p.2.2.1 + p.2.1)) (fun p => m + 1 - p.1) (0, 0, 0, U)
    ⟨Nat.zero_le _, Nat.zero_le _, by show 0 < 4294967296; omega, hUl, hU, rfl, by simp [val]⟩ (fun _ _ => hσn) hσ (fun ⟨i, bw, ca, V⟩ ⟨b1, b2, b3, b4, b5, b6, b7⟩ => ?_))
  dsimp only at b1 b2 b3 b4 b5 b6 b7 ⊢
  refine .seq (.of_fn hmo ?_)
  by_cases hi : i < m + 1
  · have hi' : (i : Int) < (m : Int) + 1 := by omega
    have hRi : (les R)[i]? = some [ud (R[i]?.getD 0)] := les_get (by omega)
    have hVi : (les V)[i + j]? = some [ud (V[i + j]?.getD 0)] := les_get (by omega)
    have r1 := hsR.get i
    have v1 := b5.get (i + j)
    obtain ⟨vi, hvi⟩ : ∃ vi, R[i]?.getD 0 = vi := ⟨_, rfl⟩
    obtain ⟨ui, hui⟩ : ∃ ui, V[i + j]?.getD 0 = ui := ⟨_, rfl⟩
    rw [hvi] at hRi r1
    rw [hui] at hVi v1
    obtain ⟨P, hP⟩ : ∃ P, P = q * vi := ⟨_, rfl⟩
    have hPb : P ≤ 4294967295 * 4294967295 := hP ▸ Nat.mul_le_mul (by omega) (by omega)
    have e1 : (vi : Int) % 18446744073709551616 = vi := by omega
    have e2 : (q : Int) * vi % 18446744073709551616 = (P : Int) := by
      have : (q : Int) * vi = (P : Int) := by rw [hP]; simp
      rw [this]; omega
    obtain ⟨pp, hpp⟩ : ∃ pp, pp = P + ca := ⟨_, rfl⟩
    have e3 : ((P : Int) + ca) % 18446744073709551616 = (pp : Int) := by omega
    have e4 : ((i : Int) + j).toNat = i + j := by omega
    have e5 : (ui : Int) % 18446744073709551616 = ui := by omega
    have e6 := mask64 (x := pp) (by omega)
    obtain ⟨pl, hpl⟩ : ∃ pl, pl = pp % 4294967296 := ⟨_, rfl⟩
    rw [← hpl] at e6
    obtain ⟨ph, hph⟩ : ∃ ph, ph = pp / 4294967296 := ⟨_, rfl⟩
    have e7 : (pp : Int) / 4294967296 = (ph : Int) := by omega
    obtain ⟨d, hd⟩ : ∃ d : Nat, (d : Int) = (((ui : Int) - pl) % 18446744073709551616 - bw) % 18446744073709551616 := ⟨((((ui : Int) - pl) % 18446744073709551616 - bw) % 18446744073709551616).toNat, by omega⟩
    obtain ⟨limb, hlimb⟩ : ∃ limb, limb = d % 4294967296 := ⟨_, rfl⟩
    obtain ⟨br, hbr⟩ : ∃ br, br = d / 9223372036854775808 := ⟨_, rfl⟩
    have e8 : (d : Int) % 4294967296 = (limb : Int) := by omega
    have e9 : (d : Int) / 9223372036854775808 = (br : Int) := by omega
    have hl : limb + pl + bw = ui + 4294967296 * br := by omega
    simp -implicitDefEqProofs [go_sem, hi']; (repeat refine And.intro (by first | decide +kernel | omega | kernel_rfl) ?_); (try decide +kernel)
    refine .seq (.of_fn hmo ?_); simp -implicitDefEqProofs [go_sem]; (repeat refine And.intro (by first | decide +kernel | omega | kernel_rfl) ?_); (try decide +kernel)
    refine .seq (.block (.seq (.of_fn hmo ?_))); simp -implicitDefEqProofs [go_sem]; (repeat refine And.intro (by first | decide +kernel | omega | kernel_rfl) ?_); (try decide +kernel)
    refine .seq (.of_fn hmo ?_); simp -implicitDefEqProofs [go_sem, hRi, ud, e1, e2, e3]; (repeat refine And.intro (by first | decide +kernel | omega | kernel_rfl) ?_); (try decide +kernel)
    refine .seq (.of_fn hmo ?_); simp -implicitDefEqProofs [go_sem, e7]; (repeat refine And.intro (by first | decide +kernel | omega | kernel_rfl) ?_); (try decide +kernel)
    refine .seq (.of_fn hmo ?_); simp -implicitDefEqProofs [go_sem, hVi, ud, e4, e5, e6, ← hd]; (repeat refine And.intro (by first | decide +kernel | omega | kernel_rfl) ?_); (try decide +kernel)
    refine .seq (.of_fn hmo ?_); simp -implicitDefEqProofs [go_sem, e4, e8, hVi, ud]; (repeat refine And.intro (by first | decide +kernel | omega | kernel_rfl) ?_); (try decide +kernel)
    refine .of_fn hmo ?_; simp -implicitDefEqProofs [go_sem, e9]; (repeat refine And.intro (by first | decide +kernel | omega | kernel_rfl) ?_); (try decide +kernel)
    refine .of_fn hmo ?_; simp -implicitDefEqProofs [go_sem]; (repeat refine And.intro (by first | decide +kernel | omega | kernel_rfl) ?_); (try decide +kernel)
    have hR1 : (les V).set (i + j) [D.v (.int .u32 (limb : Int))] = les (V.set (i + j) limb) := les_set _ _ _
    rw [hR1]
    have hr := mulsub_round (br := br) (limb := limb) (by omega) b7 hvi (show V[j + i]?.getD 0 = ui by rw [Nat.add_comm]; exact hui) (by rw [← hP, ← hpp, ← hpl]; exact hl)
    rw [← hP, ← hpp, ← hph, Nat.add_comm j i] at hr
    refine ⟨i + 1, br, ph, V.set (i + j) limb, ⟨by omega, by omega, by omega, by simp; omega, b5.set _ (by omega), ?_, hr⟩, by omega, ⟨by omega, rfl, rfl⟩, rfl⟩
    rw [drop_set_lt (by omega), b6]
  · have hi' : ¬ (i : Int) < (m : Int) + 1 := by omega
    have hie : i = m + 1 := by omega
    subst hie
    simp -implicitDefEqProofs [go_sem, hi']
    refine .seq (.of_fn hmo ?_)
    simp -implicitDefEqProofs [go_sem]
    refine hK ca bw V _ b3 b2 b4 b5 b6 ?_ ?_ ?_
    · rw [List.take_of_length_le (by omega)] at b7
      exact b7
    · simp -implicitDefEqProofs [go_sem]
    · simp
end Go.Mt
