/-
  A part of the proof.
-/
import Derived.Test.YtpoocfmphcgmkaaQri14
import Derived.Test.YtpoocfmphcgmkaaQri13
import Derived.Test.YtpoocfmphcgmkaaQri12
import Derived.Test.YtpoocfmphcgmkaaQri15
import Derived.Test.YtpoocfmphcgmkaaQri11
set_option linter.unusedVariables false
set_option linter.unusedSimpArgs false
set_option linter.unusedSimpArgs false
set_option linter.unusedVariables false
namespace Go.Mt
open Go Go.Pm Go.Proofs
/-- what the loops of nat.long keep: the divisor, the dividend, the digits -/
def kSlots (s m tp nx : Nat) (j : Int) : Slots := [(6, intP .i64 (s : Int)), (7, .sr 48 0), (8, .sr 64 2), (9, intP .i64 ((m : Int) + 1)), (11, .sr 140 0), (12, intP .u64 (tp : Int)), (13, intP .u64 (nx : Int)), (14, intP .i64 j)]
def kHeap (R U O : List Nat) : Heap := [(48, .arr ⟨80, 1, 0, false, les R⟩), (64, .arr ⟨80, 1, 2, false, les U⟩), (140, .arr ⟨80, 1, 0, false, les O⟩)]
attribute [go_sem] kSlots kHeap
def loopsOf : Code → List Code
  | .seq x y => loopsOf x ++ loopsOf y
  | .cond _ x y => loopsOf x ++ loopsOf y
  | .block _ b => loopsOf b
  | .loop b => .loop b :: loopsOf b
  | .scope b => loopsOf b
  | _ => []
def loopN (f : Func) (k : Nat) : Code := match f.body with
  | some c => ((loopsOf c)[k]?).getD .skip
  | none => .skip
def sndOf : Code → Code
  | .seq _ y => y
  | c => c
def unLoop : Code → Code
  | .loop b => b
  | c => c
/-- the work at one digit -/
noncomputable def digit : Code := sndOf (unLoop (loopN Try.f78 0))
theorem mask64 {x : Nat} (h : x < 18446744073709551616) : bAnd .u64 (x : Int) 4294967295 = ((x % 4294967296 : Nat) : Int) := by
  show IntKind.u64.wrap (BitVec.ofInt 64 (x : Int) &&& BitVec.ofInt 64 ((4294967295 : Nat) : Int)).toNat = _
  rw [BitVec.ofInt_natCast, BitVec.ofInt_natCast, BitVec.toNat_and, BitVec.toNat_ofNat, BitVec.toNat_ofNat, Nat.mod_eq_of_lt h, Nat.mod_eq_of_lt (by decide), Nat.and_two_pow_sub_one_eq_mod x 32, wrap64]
  omega
@[go_sem] theorem fdiv63 (z : Int) : z.fdiv 9223372036854775808 = z / 9223372036854775808 := Int.fdiv_eq_ediv_of_nonneg _ (by decide)
theorem drop_set_lt {u : List Nat} {i k x : Nat} (h : i < k) : (u.set i x).drop k = u.drop k := by
  apply List.ext_getElem?
  intro t
  rw [List.getElem?_drop, List.getElem?_drop, List.getElem?_set_ne (by omega)]
end Go.Mt
/-
  A part of the proof.
-/
set_option linter.unusedSimpArgs false
set_option linter.unusedVariables false
namespace Go.Mt
open Go Go.Pm Go.Proofs
/-- a guess of a digit, made smaller till it is right or one too many -/
theorem guess_ok {s m tp nx t u2 j Uj V P0 : Nat} {R U O : List Nat} (hT : Tops 4294967296 P0 Uj V tp nx t u2) (hm : 1 ≤ m) (hjm : j + m < U.length) (hUl : U.length < 4398046511104) (e2 : u2 = U[j + m - 1]?.getD 0) (htplt : tp < 4294967296) (hnxlt : nx < 4294967296) (hu2 : u2 < 4294967296)
    (q0 r0 : Nat) (hq064 : q0 < 18446744073709551616) (hst : Uj / V ≤ q0) (hqr : q0 * tp + r0 = t) (hr0 : r0 < 4294967296) {K : Exit → St → Prop}
    (hK : ∀ (q : Nat) (σ' : St), q < 4294967296 → q * V < Uj + V → Uj / V ≤ q → Sub ⟨239, (16, intP .u64 (q : Int)) :: kSlots s m tp nx (j : Int), kHeap R U O, 3000⟩ σ' → σ'.n ≤ 3000 → K .normal σ')
    (σ : St) (hσ : Sub ⟨239, (16, intP .u64 (q0 : Int)) :: (17, intP .u64 (r0 : Int)) :: kSlots s m tp nx (j : Int), kHeap R U O, 2000⟩ σ) (hσn : σ.n ≤ 2000) : SC Try.prog false noM.Y (.block 2 (loopN Try.f78 1)) K σ := by
  show SC Try.prog false noM.Y (.block 2 (.loop _)) K _
  refine .block (.loopI [] (fun (p : Nat × Nat) => ⟨239, (16, intP .u64 (p.1 : Int)) :: (17, intP .u64 (p.2 : Int)) :: kSlots s m tp nx (j : Int), kHeap R U O, 2000⟩)
    (fun p => Uj / V ≤ p.1 ∧ p.1 * tp + p.2 = t ∧ p.2 < 4294967296 ∧ p.1 < 18446744073709551616) (fun p => p.1) (q0, r0) ⟨hst, hqr, hr0, hq064⟩ (fun _ _ => hσn) hσ (fun ⟨q, r⟩ ⟨b1, b2, b3, b4⟩ => ?_))
  dsimp only at b1 b2 b3 b4 ⊢
  have c1 : ((j : Int) + ((m : Int) + 1) - 2).toNat = j + m - 1 := by omega
  have g2 : (les U)[j + m - 1]? = some [ud u2] := by rw [e2]; exact les_get (by omega)
  have c2 : (u2 : Int) % 18446744073709551616 = u2 := by omega
  refine .seq (.of_fn hmo ?_)
  by_cases hbig : 4294967296 ≤ q
  · have hbig' : (4294967296 : Int) ≤ q := by omega
    have hdec := hT.dec b2 (.inl hbig)
    have d1 : ((q : Int) - 1) % 18446744073709551616 = ((q - 1 : Nat) : Int) := by omega
    have d2 : ((r : Int) + tp) % 18446744073709551616 = (r : Int) + tp := by omega
    have hqr2 : (q - 1) * tp + (r + tp) = t := by rw [← b2, ← Nat.add_assoc, Nat.add_right_comm, ← Nat.succ_mul, show (q - 1).succ = q by omega]
    simp -implicitDefEqProofs [go_sem, hbig']
    refine .of_fn hmo ?_
    by_cases hr2 : 4294967296 ≤ r + tp
    · have hr2' : (4294967296 : Int) ≤ (r : Int) + tp := by omega
      obtain ⟨f1, f2⟩ := hT.far hqr2 hr2
      simp -implicitDefEqProofs [go_sem, d1, d2, hr2']
      refine hK (q - 1) _ f1 (hT.fin hqr2 f1 f2) (by omega) ?_ ?_
      · simp -implicitDefEqProofs [go_sem]
      · simp
    · have hr2' : ¬ (4294967296 : Int) ≤ (r : Int) + tp := by omega
      simp -implicitDefEqProofs [go_sem, d1, d2, hr2']
      exact ⟨q - 1, r + tp, ⟨by omega, hqr2, by omega, by omega⟩, by omega, rfl, by simp⟩
  · have hbig' : ¬ (4294967296 : Int) ≤ q := by omega
    have c3 : (r : Int) * 4294967296 % 18446744073709551616 = (r : Int) * 4294967296 := by omega
    have hor2 := bOr64 (x := r) hu2 b3
    have hqn : q * nx ≤ 4294967295 * 4294967295 := Nat.mul_le_mul (by omega) (by omega)
    have c4 : (q : Int) * nx % 18446744073709551616 = ((q * nx : Nat) : Int) := by
      have : (q : Int) * nx = ((q * nx : Nat) : Int) := by simp
      rw [this]; omega
    by_cases hgt : r * 4294967296 + u2 < q * nx
    · have hgt' : ((r * 4294967296 + u2 : Nat) : Int) < ((q * nx : Nat) : Int) := by omega
      have hdec := hT.dec b2 (.inr hgt)
      have hq1 : 0 < q := Nat.pos_of_ne_zero (fun h => by subst h; simp at hgt)
      have d1 : ((q : Int) - 1) % 18446744073709551616 = ((q - 1 : Nat) : Int) := by omega
      have d2 : ((r : Int) + tp) % 18446744073709551616 = (r : Int) + tp := by omega
      have hqr2 : (q - 1) * tp + (r + tp) = t := by rw [← b2, ← Nat.add_assoc, Nat.add_right_comm, ← Nat.succ_mul, show (q - 1).succ = q by omega]
      simp -implicitDefEqProofs [go_sem, hbig', c1, g2, ud, c2, c3]
      rw [hor2, c4]
      refine ⟨by omega, by omega, by omega, ?_⟩
      simp only [decide_eq_true hgt', ifB_true]
      simp -implicitDefEqProofs [go_sem]
      refine .of_fn hmo ?_
      by_cases hr2 : 4294967296 ≤ r + tp
      · have hr2' : (4294967296 : Int) ≤ (r : Int) + tp := by omega
        obtain ⟨f1, f2⟩ := hT.far hqr2 hr2
        simp -implicitDefEqProofs [go_sem, d1, d2, hr2']
        refine hK (q - 1) _ f1 (hT.fin hqr2 f1 f2) (by omega) ?_ ?_
        · simp -implicitDefEqProofs [go_sem]
        · simp
      · have hr2' : ¬ (4294967296 : Int) ≤ (r : Int) + tp := by omega
        simp -implicitDefEqProofs [go_sem, d1, d2, hr2']
        exact ⟨q - 1, r + tp, ⟨by omega, hqr2, by omega, by omega⟩, by omega, rfl, by simp⟩
    · have hgt' : ¬ ((r * 4294967296 + u2 : Nat) : Int) < ((q * nx : Nat) : Int) := by omega
      simp -implicitDefEqProofs [go_sem, hbig', c1, g2, ud, c2, c3]
      rw [hor2, c4]
      refine ⟨by omega, by omega, by omega, ?_⟩
      simp only [decide_eq_false hgt', ifB_false]
      simp -implicitDefEqProofs [go_sem]
      refine hK q _ (by omega) (hT.fin b2 (by omega) (by omega)) b1 ?_ ?_
      · simp -implicitDefEqProofs [go_sem]
      · simp
end Go.Mt
/-
  A part of the proof.
-/
set_option linter.unusedSimpArgs false
set_option linter.unusedVariables false
namespace Go.Mt
open Go Go.Pm Go.Proofs
set_option maxHeartbeats 1000000 in
/-- a digit times the divisor taken off the dividend -/
theorem mulsub_ok {s m tp nx q j n : Nat} {R U O : List Nat} (hRl : R.length = m + 1) (hsR : Small R) (hU : Small U) (hUl : U.length = n + 1) (hn : n < 1099511627776) (hjm : j + (m + 1) < n + 1) (hq : q < 4294967296)
    {K : Exit → St → Prop}
    (hK : ∀ (ca bw : Nat) (U' : List Nat) (σ' : St), ca < 4294967296 → bw ≤ 1 → U'.length = n + 1 → Small U' → U'.drop (j + (m + 1)) = U.drop (j + (m + 1)) → val U' + 4294967296 ^ j * (q * val R) = val U + 4294967296 ^ (j + (m + 1)) * (ca + bw) →
      Sub ⟨239, (16, intP .u64 (q : Int)) :: (18, intP .u64 (bw : Int)) :: (19, intP .u64 (ca : Int)) :: kSlots s m tp nx (j : Int), kHeap R U' O, 5000⟩ σ' → σ'.n ≤ 5000 → K .normal σ')
    (σ : St) (hσ : Sub ⟨239, (125, intP .i64 0) :: (124, intP .i64 ((m : Int) + 1)) :: (16, intP .u64 (q : Int)) :: (18, intP .u64 0) :: (19, intP .u64 0) :: kSlots s m tp nx (j : Int), kHeap R U O, 4000⟩ σ) (hσn : σ.n ≤ 4000) :
    SC Try.prog false noM.Y (.block 4 (loopN Try.f78 2)) K σ := by
  show SC Try.prog false noM.Y (.block 4 (.loop _)) K _
  refine .block (.loopI [] (fun (p : Nat × Nat × Nat × List Nat) => ⟨239, (125, intP .i64 (p.1 : Int)) :: (124, intP .i64 ((m : Int) + 1)) :: (16, intP .u64 (q : Int)) :: (18, intP .u64 (p.2.1 : Int)) :: (19, intP .u64 (p.2.2.1 : Int)) :: kSlots s m tp nx (j : Int), kHeap R p.2.2.2 O, 4000⟩)
    (fun p => p.1 ≤ m + 1 ∧ p.2.1 ≤ 1 ∧ p.2.2.1 < 4294967296 ∧ p.2.2.2.length = n + 1 ∧ Small p.2.2.2 ∧ p.2.2.2.drop (j + (m + 1)) = U.drop (j + (m + 1)) ∧ val p.2.2.2 + 4294967296 ^ j * (q * val (R.take p.1)) = val U + 4294967296 ^ (j + p.1) * (p.2.2.1 + p.2.1)) (fun p => m + 1 - p.1) (0, 0, 0, U)
    ⟨Nat.zero_le _, Nat.zero_le _, by show 0 < 4294967296; omega, hUl, hU, rfl, by simp [val]⟩ (fun _ _ => hσn) hσ (fun ⟨i, bw, ca, V⟩ ⟨b1, b2, b3, b4, b5, b6, b7⟩ => ?_))
  dsimp only at b1 b2 b3 b4 b5 b6 b7 ⊢
  refine .seq (.of_fn hmo ?_)
  by_cases hi : i < m + 1
  · have hi' : (i : Int) < (m : Int) + 1 := by omega
    have hRi : (les R)[i]? = some [ud (R[i]?.getD 0)] := les_get (by omega)
    have hVi : (les V)[i + j]? = some [ud (V[i + j]?.getD 0)] := les_get (by omega)
    have r1 := hsR.get i
    have v1 := b5.get (i + j)
    obtain ⟨vi, hvi⟩ : ∃ vi, R[i]?.getD 0 = vi := ⟨_, rfl⟩
    obtain ⟨ui, hui⟩ : ∃ ui, V[i + j]?.getD 0 = ui := ⟨_, rfl⟩
    rw [hvi] at hRi r1
    rw [hui] at hVi v1
    obtain ⟨P, hP⟩ : ∃ P, P = q * vi := ⟨_, rfl⟩
    have hPb : P ≤ 4294967295 * 4294967295 := hP ▸ Nat.mul_le_mul (by omega) (by omega)
    have e1 : (vi : Int) % 18446744073709551616 = vi := by omega
    have e2 : (q : Int) * vi % 18446744073709551616 = (P : Int) := by
      have : (q : Int) * vi = (P : Int) := by rw [hP]; simp
      rw [this]; omega
    obtain ⟨pp, hpp⟩ : ∃ pp, pp = P + ca := ⟨_, rfl⟩
    have e3 : ((P : Int) + ca) % 18446744073709551616 = (pp : Int) := by omega
    have e4 : ((i : Int) + j).toNat = i + j := by omega
    have e5 : (ui : Int) % 18446744073709551616 = ui := by omega
    have e6 := mask64 (x := pp) (by omega)
    obtain ⟨pl, hpl⟩ : ∃ pl, pl = pp % 4294967296 := ⟨_, rfl⟩
    rw [← hpl] at e6
    obtain ⟨ph, hph⟩ : ∃ ph, ph = pp / 4294967296 := ⟨_, rfl⟩
    have e7 : (pp : Int) / 4294967296 = (ph : Int) := by omega
    obtain ⟨d, hd⟩ : ∃ d : Nat, (d : Int) = (((ui : Int) - pl) % 18446744073709551616 - bw) % 18446744073709551616 := ⟨((((ui : Int) - pl) % 18446744073709551616 - bw) % 18446744073709551616).toNat, by omega⟩
    obtain ⟨limb, hlimb⟩ : ∃ limb, limb = d % 4294967296 := ⟨_, rfl⟩
    obtain ⟨br, hbr⟩ : ∃ br, br = d / 9223372036854775808 := ⟨_, rfl⟩
    have e8 : (d : Int) % 4294967296 = (limb : Int) := by omega
    have e9 : (d : Int) / 9223372036854775808 = (br : Int) := by omega
    have hl : limb + pl + bw = ui + 4294967296 * br := by omega
    simp -implicitDefEqProofs [go_sem, hi']; (repeat refine And.intro (by first | decide +kernel | omega | kernel_rfl) ?_); (try decide +kernel)
    refine .seq (.of_fn hmo ?_); simp -implicitDefEqProofs [go_sem]; (repeat refine And.intro (by first | decide +kernel | omega | kernel_rfl) ?_); (try decide +kernel)
    refine .seq (.block (.seq (.of_fn hmo ?_))); simp -implicitDefEqProofs [go_sem]; (repeat refine And.intro (by first | decide +kernel | omega | kernel_rfl) ?_); (try decide +kernel)
    refine .seq (.of_fn hmo ?_); simp -implicitDefEqProofs [go_sem, hRi, ud, e1, e2, e3]; (repeat refine And.intro (by first | decide +kernel | omega | kernel_rfl) ?_); (try decide +kernel)
    refine .seq (.of_fn hmo ?_); simp -implicitDefEqProofs [go_sem, e7]; (repeat refine And.intro (by first | decide +kernel | omega | kernel_rfl) ?_); (try decide +kernel)
    refine .seq (.of_fn hmo ?_); simp -implicitDefEqProofs [go_sem, hVi, ud, e4, e5, e6, ← hd]; (repeat refine And.intro (by first | decide +kernel | omega | kernel_rfl) ?_); (try decide +kernel)
    refine .seq (.of_fn hmo ?_); simp -implicitDefEqProofs [go_sem, e4, e8, hVi, ud]; (repeat refine And.intro (by first | decide +kernel | omega | kernel_rfl) ?_); (try decide +kernel)
    refine .of_fn hmo ?_; simp -implicitDefEqProofs [go_sem, e9]; (repeat refine And.intro (by first | decide +kernel | omega | kernel_rfl) ?_); (try decide +kernel)
    refine .of_fn hmo ?_; simp -implicitDefEqProofs [go_sem]; (repeat refine And.intro (by first | decide +kernel | omega | kernel_rfl) ?_); (try decide +kernel)
    have hR1 : (les V).set (i + j) [D.v (.int .u32 (limb : Int))] = les (V.set (i + j) limb) := les_set _ _ _
    rw [hR1]
    have hr := mulsub_round (br := br) (limb := limb) (by omega) b7 hvi (show V[j + i]?.getD 0 = ui by rw [Nat.add_comm]; exact hui) (by rw [← hP, ← hpp, ← hpl]; exact hl)
    rw [← hP, ← hpp, ← hph, Nat.add_comm j i] at hr
    refine ⟨i + 1, br, ph, V.set (i + j) limb, ⟨by omega, by omega, by omega, by simp; omega, b5.set _ (by omega), ?_, hr⟩, by omega, ⟨by omega, rfl, rfl⟩, rfl⟩
    rw [drop_set_lt (by omega), b6]
  · have hi' : ¬ (i : Int) < (m : Int) + 1 := by omega
    have hie : i = m + 1 := by omega
    subst hie
    simp -implicitDefEqProofs [go_sem, hi']
    refine .seq (.of_fn hmo ?_)
    simp -implicitDefEqProofs [go_sem]
    refine hK ca bw V _ b3 b2 b4 b5 b6 ?_ ?_ ?_
    · rw [List.take_of_length_le (by omega)] at b7
      exact b7
    · simp -implicitDefEqProofs [go_sem]
    · simp
end Go.Mt
/-
  A part of the proof.
-/
set_option linter.unusedSimpArgs false
set_option linter.unusedVariables false
namespace Go.Mt
open Go Go.Pm Go.Proofs
/-- the divisor added back -/
theorem back_ok {s m tp nx q j n : Nat} {R U O : List Nat} {C : List (Nat × PV)} (hRl : R.length = m + 1) (hsR : Small R) (hU : Small U) (hUl : U.length = n + 1) (hn : n < 1099511627776) (hjm : j + (m + 1) < n + 1)
    {K : Exit → St → Prop}
    (hK : ∀ (c : Nat) (U' : List Nat) (σ' : St), c ≤ 1 → U'.length = n + 1 → Small U' → U'.drop (j + (m + 1)) = U.drop (j + (m + 1)) → val U' + 4294967296 ^ (j + (m + 1)) * c = val U + 4294967296 ^ j * val R →
      Sub ⟨239, (16, intP .u64 (q : Int)) :: (24, intP .u64 (c : Int)) :: kSlots s m tp nx (j : Int), kHeap R U' O, 7000⟩ σ' → σ'.n ≤ 7000 → K .normal σ')
    (σ : St) (hσ : Sub ⟨239, (185, intP .i64 0) :: (184, intP .i64 ((m : Int) + 1)) :: (16, intP .u64 (q : Int)) :: (24, intP .u64 0) :: kSlots s m tp nx (j : Int), kHeap R U O, 6000⟩ σ) (hσn : σ.n ≤ 6000) :
    SC Try.prog false noM.Y (.block 6 (loopN Try.f78 3)) K σ := by
  show SC Try.prog false noM.Y (.block 6 (.loop _)) K _
  refine .block (.loopI [] (fun (p : Nat × Nat × List Nat) => ⟨239, (185, intP .i64 (p.1 : Int)) :: (184, intP .i64 ((m : Int) + 1)) :: (16, intP .u64 (q : Int)) :: (24, intP .u64 (p.2.1 : Int)) :: kSlots s m tp nx (j : Int), kHeap R p.2.2 O, 6000⟩)
    (fun p => p.1 ≤ m + 1 ∧ p.2.1 ≤ 1 ∧ p.2.2.length = n + 1 ∧ Small p.2.2 ∧ p.2.2.drop (j + (m + 1)) = U.drop (j + (m + 1)) ∧ val p.2.2 + 4294967296 ^ (j + p.1) * p.2.1 = val U + 4294967296 ^ j * val (R.take p.1)) (fun p => m + 1 - p.1) (0, 0, U)
    ⟨Nat.zero_le _, Nat.zero_le _, hUl, hU, rfl, by simp [val]⟩ (fun _ _ => hσn) hσ (fun ⟨i, c, V⟩ ⟨b1, b2, b4, b5, b6, b7⟩ => ?_))
  dsimp only at b1 b2 b4 b5 b6 b7 ⊢
  refine .seq (.of_fn hmo ?_)
  by_cases hi : i < m + 1
  · have hi' : (i : Int) < (m : Int) + 1 := by omega
    have hRi : (les R)[i]? = some [ud (R[i]?.getD 0)] := les_get (by omega)
    have hVi : (les V)[i + j]? = some [ud (V[i + j]?.getD 0)] := les_get (by omega)
    have r1 := hsR.get i
    have v1 := b5.get (i + j)
    obtain ⟨vi, hvi⟩ : ∃ vi, R[i]?.getD 0 = vi := ⟨_, rfl⟩
    obtain ⟨ui, hui⟩ : ∃ ui, V[i + j]?.getD 0 = ui := ⟨_, rfl⟩
    rw [hvi] at hRi r1
    rw [hui] at hVi v1
    have e1 : (vi : Int) % 18446744073709551616 = vi := by omega
    have e5 : (ui : Int) % 18446744073709551616 = ui := by omega
    have e4 : ((i : Int) + j).toNat = i + j := by omega
    obtain ⟨d, hd⟩ : ∃ d : Nat, d = ui + vi + c := ⟨_, rfl⟩
    have e6 : (((ui : Int) + vi) % 18446744073709551616 + c) % 18446744073709551616 = (d : Int) := by omega
    obtain ⟨limb, hlimb⟩ : ∃ limb, limb = d % 4294967296 := ⟨_, rfl⟩
    obtain ⟨cc, hcc⟩ : ∃ cc, cc = d / 4294967296 := ⟨_, rfl⟩
    have e8 : (d : Int) % 4294967296 = (limb : Int) := by omega
    have e9 : (d : Int) / 4294967296 = (cc : Int) := by omega
    simp -implicitDefEqProofs [go_sem, hi']; (repeat refine And.intro (by first | decide +kernel | omega | kernel_rfl) ?_); (try decide +kernel)
    refine .seq (.of_fn hmo ?_); simp -implicitDefEqProofs [go_sem]; (repeat refine And.intro (by first | decide +kernel | omega | kernel_rfl) ?_); (try decide +kernel)
    refine .seq (.block (.seq (.of_fn hmo ?_))); simp -implicitDefEqProofs [go_sem]; (repeat refine And.intro (by first | decide +kernel | omega | kernel_rfl) ?_); (try decide +kernel)
    refine .seq (.of_fn hmo ?_); simp -implicitDefEqProofs [go_sem, hRi, hVi, ud, e1, e4, e5, e6]; (repeat refine And.intro (by first | decide +kernel | omega | kernel_rfl) ?_); (try decide +kernel)
    refine .seq (.of_fn hmo ?_); simp -implicitDefEqProofs [go_sem, e4, e8, hVi, ud]; (repeat refine And.intro (by first | decide +kernel | omega | kernel_rfl) ?_); (try decide +kernel)
    refine .of_fn hmo ?_; simp -implicitDefEqProofs [go_sem, e9]; (repeat refine And.intro (by first | decide +kernel | omega | kernel_rfl) ?_); (try decide +kernel)
    refine .of_fn hmo ?_; simp -implicitDefEqProofs [go_sem]; (repeat refine And.intro (by first | decide +kernel | omega | kernel_rfl) ?_); (try decide +kernel)
    have hR1 : (les V).set (i + j) [D.v (.int .u32 (limb : Int))] = les (V.set (i + j) limb) := les_set _ _ _
    rw [hR1]
    have hr := back_round (by omega) b7 hvi (show V[j + i]?.getD 0 = ui by rw [Nat.add_comm]; exact hui)
    rw [← hd, ← hlimb, ← hcc, Nat.add_comm j i] at hr
    refine ⟨i + 1, cc, V.set (i + j) limb, ⟨by omega, by omega, by simp; omega, b5.set _ (by omega), ?_, hr⟩, by omega, ⟨by omega, rfl⟩, rfl⟩
    rw [drop_set_lt (by omega), b6]
  · have hi' : ¬ (i : Int) < (m : Int) + 1 := by omega
    have hie : i = m + 1 := by omega
    subst hie
    simp -implicitDefEqProofs [go_sem, hi']; (repeat refine And.intro (by first | decide +kernel | omega | kernel_rfl) ?_); (try decide +kernel)
    refine .seq (.of_fn hmo ?_); simp -implicitDefEqProofs [go_sem]; (repeat refine And.intro (by first | decide +kernel | omega | kernel_rfl) ?_); (try decide +kernel)
    refine hK c V _ b2 b4 b5 b6 ?_ ?_ ?_
    · rw [List.take_of_length_le (by omega)] at b7
      exact b7
    · simp -implicitDefEqProofs [go_sem]
    · simp
end Go.Mt
/-
  A part of the proof.
-/
set_option linter.unusedSimpArgs false
set_option linter.unusedVariables false
namespace Go.Mt
open Go Go.Pm Go.Proofs
theorem lt_of_drop {U V : List Nat} {k : Nat} (hs : Small V) (hd : V.drop k = U.drop k) (h : val U < 4294967296 ^ k) : val V < 4294967296 ^ k := val_high hs fun t ht => by
  have h1 := high_of_val h t ht
  have e : V[t]? = U[t]? := by
    have := congrArg (fun l => l[t - k]?) hd
    simpa [List.getElem?_drop, show k + (t - k) = t by omega] using this
  rw [e]; exact h1
theorem drop_next {U V : List Nat} {k : Nat} (hd : V.drop k = U.drop k) : V.drop (k + 1) = U.drop (k + 1) := by
  have := congrArg (fun l => l.drop 1) hd
  simpa [List.drop_drop] using this
theorem get_of_drop {U V : List Nat} {k : Nat} (hd : V.drop k = U.drop k) : V[k]? = U[k]? := by
  have := congrArg (fun l => l[0]?) hd
  simpa [List.getElem?_drop] using this
set_option maxRecDepth 100000 in
set_option maxHeartbeats 16000000 in
theorem digit_ok {s m d tp nx X j n : Nat} {R U Q : List Nat} (hm : 1 ≤ m) (hRl : R.length = m + 1) (hsR : Small R) (htp : R[m]?.getD 0 = tp) (hnx : R[m - 1]?.getD 0 = nx) (htp0 : 0 < tp) (hn : n < 1099511627776) (hnd : n = m + 1 + d)
    (h1 : U.length = n + 1) (h3 : Small U) (h4 : Q.length + (j + 1) = d + 1) (h5 : Small Q) (h6 : X = val U + 4294967296 ^ (j + 1) * (val Q * val R)) (h7 : val U < val R * 4294967296 ^ (j + 1)) (N : Nat) {K : Exit → St → Prop}
    (hK : ∀ (q : Nat) (U' : List Nat), q < 4294967296 → U'.length = n + 1 → Small U' → val U' + 4294967296 ^ j * (q * val R) = val U → val U' < val R * 4294967296 ^ j →
      ∀ σ', Sub ⟨239, kSlots s m tp nx ((j : Int) - 1), kHeap R U' (List.replicate j 0 ++ q :: Q), 1000⟩ σ' → K .normal σ') (J : Slots) (hJ : J = kSlots s m tp nx (j : Int)) :
    SC Try.prog false noM.Y digit K ⟨239, J, kHeap R U (List.replicate (j + 1) 0 ++ Q), 1008⟩ := by
  show SC Try.prog false noM.Y (.seq (.block 1 (.scope (.seq _ _))) _) K _
  subst hJ
  have hjm1 : j + (m + 1) < U.length := by omega
  have hjm : j + m < U.length := by omega
  have ht1 := h3.get (j + (m + 1))
  have ht0 := h3.get (j + m)
  have hu2 := h3.get (j + m - 1)
  have hT := tops_of (n := m + 1) h3 hsR (by omega) hRl h7 (by rw [Nat.add_sub_cancel]; exact htp) hnx rfl rfl rfl htp0
  rw [show j + (m + 1) - 1 = j + m from by omega, show j + (m + 1) - 2 = j + m - 1 from by omega] at hT
  have g1 : (les U)[j + (m + 1)]? = some [ud (U[j + (m + 1)]?.getD 0)] := les_get hjm1
  have g0 : (les U)[j + m]? = some [ud (U[j + m]?.getD 0)] := les_get hjm
  have i1 : ((j : Int) + ((m : Int) + 1)).toNat = j + (m + 1) := by omega
  have i0 : ((j : Int) + ((m : Int) + 1) - 1).toNat = j + m := by omega
  obtain ⟨t1, e1⟩ : ∃ t1, t1 = U[j + (m + 1)]?.getD 0 := ⟨_, rfl⟩
  obtain ⟨t0, e0⟩ : ∃ t0, t0 = U[j + m]?.getD 0 := ⟨_, rfl⟩
  obtain ⟨u2, e2⟩ : ∃ u2, u2 = U[j + m - 1]?.getD 0 := ⟨_, rfl⟩
  rw [← e1] at ht1 hT g1
  rw [← e0] at ht0 hT g0
  rw [← e2] at hu2 hT
  have a1 : (t1 : Int) % 18446744073709551616 = t1 := by omega
  have a2 : (t1 : Int) * 4294967296 % 18446744073709551616 = (t1 : Int) * 4294967296 := by omega
  have a3 : (t0 : Int) % 18446744073709551616 = t0 := by omega
  obtain ⟨t, ht⟩ : ∃ t, t = t1 * 4294967296 + t0 := ⟨_, rfl⟩
  have hor := bOr64 ht0 ht1
  rw [← ht] at hor hT
  have htl : t < 18446744073709551616 := by omega
  have htplt : tp < 4294967296 := by rw [← htp]; exact hsR.get _
  have hnxlt : nx < 4294967296 := by rw [← hnx]; exact hsR.get _
  have a4 : ¬ (tp : Int) = 0 := by omega
  have hqle : t / tp ≤ t := Nat.div_le_self _ _
  have hrlt : t % tp < tp := Nat.mod_lt _ htp0
  have hqr : t / tp * tp + t % tp = t := by rw [Nat.mul_comm]; exact Nat.div_add_mod _ _
  refine .seq (.block (.scope (.seq (.of_fn hmo ?_))))
  simp -implicitDefEqProofs [go_sem, i1, i0, g1, g0, ud, a1, a2, a3]
  rw [hor]
  refine ⟨by omega, by omega, by omega, by omega, by omega, by kernel_rfl, ?_⟩
  obtain ⟨q0, hq0⟩ : ∃ q0, q0 = t / tp := ⟨_, rfl⟩
  obtain ⟨r0, hr0⟩ : ∃ r0, r0 = t % tp := ⟨_, rfl⟩
  have a5 : (t : Int) / tp = (q0 : Int) := by rw [hq0]; simp
  have a6 : (t : Int).tmod tp = (r0 : Int) := by rw [hr0]; rfl
  have hst := hT.start
  rw [← hq0] at hqle hqr hst
  rw [← hr0] at hrlt hqr
  have a7 : (q0 : Int) % 18446744073709551616 = q0 := by omega
  have a8 : ¬ tp = 0 := by omega
  refine .seq (.of_fn hmo ?_)
  simp -implicitDefEqProofs [go_sem, a4, a5, a6, a7, a8]
  refine ⟨by kernel_rfl, ?_⟩
  refine .seq (.of_fn hmo ?_)
  simp -implicitDefEqProofs [go_sem]
  have hlt2 : val U < 4294967296 ^ (j + (m + 1) + 1) := by
    have := val_lt hsR
    rw [hRl] at this
    refine Nat.lt_trans h7 ?_
    rw [show j + (m + 1) + 1 = (m + 1) + (j + 1) from by omega, Nat.pow_add _ (m + 1)]
    exact Nat.mul_lt_mul_of_pos_right this (Nat.pow_pos (by decide))
  refine .seq (guess_ok (s := s) (R := R) (O := List.replicate (j + 1) 0 ++ Q) hT hm hjm (by omega) e2 htplt hnxlt hu2 q0 r0 (by omega) hst hqr (by omega) (fun q σ' b1 b2 b3 hs hsn => SC.sub ?_ hs hsn) _ ?_ ?_)
  rotate_left
  · simp -implicitDefEqProofs [go_sem]
  · simp
  refine .seq (.of_fn hmo ?_); simp -implicitDefEqProofs [go_sem]; (repeat refine And.intro (by first | decide +kernel | omega | kernel_rfl) ?_); (try decide +kernel)
  refine .seq (.seq (.of_fn hmo ?_))
  simp -implicitDefEqProofs [go_sem]; (repeat refine And.intro (by first | decide +kernel | omega | kernel_rfl) ?_); (try decide +kernel)
  refine mulsub_ok (s := s) (m := m) (tp := tp) (nx := nx) (q := q) (j := j) (n := n) (O := List.replicate (j + 1) 0 ++ Q) hRl hsR h3 h1 hn (by omega) b1 (fun ca bw V σ' c1 c2 c3 c4 c5 c6 hs hsn => SC.sub ?_ hs hsn) _ ?_ ?_
  rotate_left
  · simp -implicitDefEqProofs [go_sem]
  · simp
  have gV : (les V)[j + (m + 1)]? = some [ud t1] := by
    rw [les_get (by omega), get_of_drop c5, ← e1]
  obtain ⟨d, hd⟩ : ∃ d : Nat, (d : Int) = (((t1 : Int) - ca) % 18446744073709551616 - bw) % 18446744073709551616 := ⟨((((t1 : Int) - ca) % 18446744073709551616 - bw) % 18446744073709551616).toNat, by omega⟩
  obtain ⟨limb, hlimb⟩ : ∃ limb, limb = d % 4294967296 := ⟨_, rfl⟩
  obtain ⟨br, hbr⟩ : ∃ br, br = d / 9223372036854775808 := ⟨_, rfl⟩
  have e8 : (d : Int) % 4294967296 = (limb : Int) := by omega
  have e9 : (d : Int) / 9223372036854775808 = (br : Int) := by omega
  have hbr1 : br ≤ 1 := by omega
  have hl : limb + ca + bw = t1 + 4294967296 * br := by omega
  have hme := mulsub_end (n := m + 1) (br := br) (limb := limb) (by omega) c6 (by rw [get_of_drop c5, ← e1]) hl
  have hV1 : (les V).set (j + (m + 1)) [D.v (.int .u32 (limb : Int))] = les (V.set (j + (m + 1)) limb) := les_set _ _ _
  have hsV : Small (V.set (j + (m + 1)) limb) := c4.set _ (by omega)
  have hdV : (V.set (j + (m + 1)) limb).drop (j + (m + 1) + 1) = U.drop (j + (m + 1) + 1) := by rw [drop_set_lt (by omega)]; exact drop_next c5
  have hlV : (V.set (j + (m + 1)) limb).length = n + 1 := by simp; omega
  have hX := lt_of_drop hsV hdV hlt2
  generalize V.set (j + (m + 1)) limb = V2 at *
  have i2 : ((j : Int) + ((m : Int) + 1)).toNat = j + (m + 1) := by omega
  refine .seq (.of_fn hmo ?_); simp -implicitDefEqProofs [go_sem, gV, ud, i2, a1, ← hd]; (repeat refine And.intro (by first | decide +kernel | omega | kernel_rfl) ?_); (try decide +kernel)
  refine .seq (.of_fn hmo ?_); simp -implicitDefEqProofs [go_sem, e8, i2, gV, ud]; (repeat refine And.intro (by first | decide +kernel | omega | kernel_rfl) ?_); (try decide +kernel)
  rw [hV1]
  have hVpos : 0 < val R := by
    rcases Nat.eq_zero_or_pos (val R) with h | h
    · rw [h, Nat.zero_mul] at h7; omega
    · exact h
  have hPpos : 0 < 4294967296 ^ j := Nat.pow_pos (by decide)
  have gO : (les (List.replicate (j + 1) 0 ++ Q))[j]? = some [ud 0] := by
    rw [les_get (by simp; omega), List.getElem?_append_left (by simp)]; simp
  have sO : ∀ x : Nat, (les (List.replicate (j + 1) 0 ++ Q)).set j [D.v (.int .u32 (x : Int))] = les (List.replicate j 0 ++ x :: Q) := fun x => by
    have : (List.replicate (j + 1) 0 ++ Q).set j x = List.replicate j 0 ++ x :: Q := by
      rw [List.replicate_succ', List.append_assoc, List.set_append_right _ _ (by simp)]; simp
    rw [← this]; exact les_set _ _ _
  by_cases hb0 : br = 0
  · subst hb0
    rw [Nat.mul_zero, Nat.add_zero] at hme
    have hno := fin_no hPpos hVpos b3 hme
    have e10 : (q : Int) % 4294967296 = q := by omega
    refine .seq (.of_fn hmo ?_); simp -implicitDefEqProofs [go_sem, e9]; (repeat refine And.intro (by first | decide +kernel | omega | kernel_rfl) ?_); (try decide +kernel)
    refine .of_fn hmo ?_; simp -implicitDefEqProofs [go_sem, e10, gO, ud, sO]; (repeat refine And.intro (by first | decide +kernel | omega | kernel_rfl) ?_); (try decide +kernel)
    refine .of_fn hmo ?_; simp -implicitDefEqProofs [go_sem]; (repeat refine And.intro (by first | decide +kernel | omega | kernel_rfl) ?_); (try decide +kernel)
    exact hK q V2 b1 hlV hsV hme hno _ (by simp -implicitDefEqProofs [go_sem])
  · obtain rfl : br = 1 := by omega
    have hq0 : 0 < q := by
      rcases Nat.eq_zero_or_pos q with h | h
      · rw [h, Nat.zero_mul, Nat.mul_zero] at hme; omega
      · exact h
    obtain ⟨q1, hq1⟩ : ∃ q1, q1 = q - 1 := ⟨_, rfl⟩
    have e11 : ((q : Int) - 1) % 18446744073709551616 = (q1 : Int) := by omega
    refine .seq (.seq (.of_fn hmo ?_))
    simp -implicitDefEqProofs [go_sem, e9]; (repeat refine And.intro (by first | decide +kernel | omega | kernel_rfl) ?_); (try decide +kernel)
    refine .cond (b := true) rfl (.seq (.of_fn hmo ?_))
    simp -implicitDefEqProofs [go_sem, e11]; (repeat refine And.intro (by first | decide +kernel | omega | kernel_rfl) ?_); (try decide +kernel)
    refine .seq (.of_fn hmo ?_); simp -implicitDefEqProofs [go_sem]; (repeat refine And.intro (by first | decide +kernel | omega | kernel_rfl) ?_); (try decide +kernel)
    refine .seq (.seq (.of_fn hmo ?_))
    simp -implicitDefEqProofs [go_sem]; (repeat refine And.intro (by first | decide +kernel | omega | kernel_rfl) ?_); (try decide +kernel)
    refine back_ok (s := s) (m := m) (tp := tp) (nx := nx) (q := q1) (j := j) (n := n) (O := List.replicate (j + 1) 0 ++ Q) (C := []) hRl hsR hsV hlV hn (by omega) (fun c V3 σ' c1 c2 c3 c4 c5 hs hsn => SC.sub ?_ hs hsn) _ ?_ ?_
    rotate_left
    · simp -implicitDefEqProofs [go_sem]
    · simp
    have g3 := c3.get (j + (m + 1))
    have gV3 : (les V3)[j + (m + 1)]? = some [ud (V3[j + (m + 1)]?.getD 0)] := les_get (by omega)
    obtain ⟨ui, hui⟩ : ∃ ui, V3[j + (m + 1)]?.getD 0 = ui := ⟨_, rfl⟩
    rw [hui] at gV3 g3
    have hbe := back_end (n := m + 1) (by omega) c5 hui
    obtain ⟨limb2, hlimb2⟩ : ∃ limb2, limb2 = (ui + c) % 4294967296 := ⟨_, rfl⟩
    obtain ⟨ov, hov⟩ : ∃ ov, ov = (ui + c) / 4294967296 := ⟨_, rfl⟩
    rw [← hlimb2, ← hov] at hbe
    have hV4 : (les V3).set (j + (m + 1)) [D.v (.int .u32 (limb2 : Int))] = les (V3.set (j + (m + 1)) limb2) := les_set _ _ _
    have hsV4 : Small (V3.set (j + (m + 1)) limb2) := c3.set _ (by omega)
    have hdV4 : (V3.set (j + (m + 1)) limb2).drop (j + (m + 1) + 1) = U.drop (j + (m + 1) + 1) := by rw [drop_set_lt (by omega), drop_next c4, hdV]
    have hlV4 : (V3.set (j + (m + 1)) limb2).length = n + 1 := by simp; omega
    generalize V3.set (j + (m + 1)) limb2 = V4 at *
    have hY := lt_of_drop hsV4 hdV4 hlt2
    rw [Nat.mul_one] at hme
    obtain ⟨_, f2, f3⟩ := fin_yes hPpos hVpos b2 hme hX hY hbe (by omega)
    rw [← hq1] at f2
    have e12 : ((ui : Int) + c) % 4294967296 = (limb2 : Int) := by omega
    have e13 : (q1 : Int) % 4294967296 = q1 := by omega
    have e14 : (c : Int) % 4294967296 = c := by omega
    refine .of_fn hmo ?_; simp -implicitDefEqProofs [go_sem, gV3, i2, ud, e12, e14]; (repeat refine And.intro (by first | decide +kernel | omega | kernel_rfl) ?_); (try decide +kernel)
    rw [hV4]
    refine .of_fn hmo ?_; simp -implicitDefEqProofs [go_sem, e13, gO, ud, sO]; (repeat refine And.intro (by first | decide +kernel | omega | kernel_rfl) ?_); (try decide +kernel)
    refine .of_fn hmo ?_; simp -implicitDefEqProofs [go_sem]; (repeat refine And.intro (by first | decide +kernel | omega | kernel_rfl) ?_); (try decide +kernel)
    exact hK q1 V4 (by omega) hlV4 hsV4 f2 f3 _ (by simp -implicitDefEqProofs [go_sem])
end Go.Mt
/-
  A part of the proof.
-/
set_option linter.unusedSimpArgs false
set_option linter.unusedVariables false
namespace Go.Mt
open Go Go.Pm Go.Proofs
set_option maxRecDepth 100000 in
set_option maxHeartbeats 16000000 in
theorem long_ok (x y : Nat) (hn : nl x < 1099511627776) (h2 : 2 ≤ nl y) (hyx : y ≤ x) : PCall Try.prog 78 [.d (.sl (les (limbs x))), .d (.sl (les (limbs y)))] (.tup [.d (.sl (les (limbs (x / y)))), .d (.sl (les (limbs (x % y))))]) := by
  obtain ⟨p, hm⟩ : ∃ p, nl y = p + 1 + 1 := ⟨nl y - 2, by omega⟩
  obtain ⟨m, hmp⟩ : ∃ m, m = p + 1 := ⟨_, rfl⟩
  rw [← hmp] at hm
  have hnn : nl y ≤ nl x := nl_mono hyx
  obtain ⟨d, hd⟩ : ∃ d, nl x = m + 1 + d := ⟨nl x - (m + 1), by omega⟩
  obtain ⟨hne, _⟩ := limbs_top hm
  have hsh := norm_shift hm
  have htop := (small_limbs y).get m
  have hyg : (les (limbs y))[m]? = some [ud ((limbs y)[m]?.getD 0)] := les_get (by rw [length_limbs]; omega)
  obtain ⟨top, htt⟩ : ∃ top, top = (limbs y)[m]?.getD 0 := ⟨_, rfl⟩
  rw [← htt] at hne hsh htop hyg
  have hbt : blen top ≤ 32 := blen_le_of_lt htop
  have hbp : 0 < blen top := by rw [blen_pos (by omega)]; omega
  obtain ⟨s, hs⟩ : ∃ s, s = 32 - blen top := ⟨_, rfl⟩
  rw [← hs] at hsh
  have hs32 : s < 32 := by omega
  obtain ⟨R, hsR, hvR, hlR, hcR⟩ := left_ok (limbs y) s (small_limbs y) (by rw [length_limbs]; omega) hs32
  obtain ⟨R2, hsR2, hvR2, hlR2, hcR2⟩ := left_ok (limbs x) s (small_limbs x) (by rw [length_limbs]; omega) hs32
  rw [val_limbs] at hvR hlR hvR2 hlR2
  have hRl : R.length = m + 1 := by
    rcases hlR with h | ⟨_, h⟩
    · omega
    · rw [hvR, hm] at h; omega
  have hR2l : nl x ≤ R2.length ∧ R2.length ≤ nl x + 1 := by rcases hlR2 with h | ⟨h, _⟩ <;> omega
  have hlead := lead_ok top htop
  rw [← hs] at hlead
  have em : ((m : Int) + 1 - 1).toNat = m := by omega
  have hy0 : 0 < y := by
    rcases Nat.eq_zero_or_pos y with h | h
    · subst h; rw [nl_zero] at hm; omega
    · exact h
  have hmlt : m < (limbs y).length := by rw [length_limbs]; omega
  have hge : (limbs y)[m] = top := by rw [htt, List.getElem?_eq_getElem hmlt]; rfl
  have hu0 : les R2 ++ [[D.v (.int .u32 0)], [D.v (.int .u32 0)]] = les (R2 ++ [0, 0]) := by rw [← les_append]; rfl
  have hnx : ((nl x : Int) + 1).toNat = nl x + 1 := by omega
  have hk1 : (nl x : Int) + 1 ≤ (R2.length : Int) + 2 := by omega
  have htk : (les (R2 ++ [0, 0])).take (nl x + 1) = les ((R2 ++ [0, 0]).take (nl x + 1)) := les_take _ _
  have hp1 : m < R.length := by omega
  have hp0 : p < R.length := by omega
  obtain ⟨tp, htp⟩ : ∃ tp, tp = R[m] := ⟨_, rfl⟩
  obtain ⟨nx, hnxt⟩ : ∃ nx, nx = R[p] := ⟨_, rfl⟩
  have htplt : tp < 4294967296 := htp ▸ hsR _ (List.getElem_mem hp1)
  have hnxlt : nx < 4294967296 := hnxt ▸ hsR _ (List.getElem_mem hp0)
  have hg2 : (les R)[p]? = some [ud nx] := by rw [les_get hp0, List.getElem?_eq_getElem hp0, hnxt]; rfl
  have ep : ((m : Int) + 1 - 2).toNat = p := by omega
  have etp : (tp : Int) % 18446744073709551616 = tp := by omega
  have enx : (nx : Int) % 18446744073709551616 = nx := by omega
  have hqd : (nl x : Int) - ((m : Int) + 1) = (d : Int) := by omega
  refine pcallS_of Try.func78 rfl (by kernel_rfl) (by simp [Try.ntmps78]) ?_
  rw [show Try.f78.ntmps = 239 from Try.ntmps78]
  refine .seq (.of_fn hmo ?_)
  simp -implicitDefEqProofs [go_sem]
  refine .seq (.of_fn hmo ?_)
  simp -implicitDefEqProofs [go_sem, length_limbs, hm, hyg, em]
  rw [hge]
  refine ⟨by omega, .inl ⟨_, hlead, ?_⟩⟩
  simp -implicitDefEqProofs [go_sem]
  refine .seq (.of_fn hmo ?_)
  simp -implicitDefEqProofs [go_sem]
  refine .inl ⟨_, hcR, ?_⟩
  simp -implicitDefEqProofs [go_sem]
  refine .seq (.of_fn hmo ?_)
  simp -implicitDefEqProofs [go_sem]
  refine .inl ⟨_, hcR2, ?_⟩
  simp -implicitDefEqProofs [go_sem, hu0, length_limbs, hnx, htk]
  refine ⟨by omega, by omega, by omega, ?_⟩
  refine .seq (.of_fn hmo ?_)
  simp -implicitDefEqProofs [go_sem, length_limbs, hRl, hqd]
  refine ⟨by omega, ?_⟩
  refine .seq (.of_fn hmo ?_)
  simp -implicitDefEqProofs [go_sem, length_limbs, hRl, hqd]
  refine ⟨by omega, by omega, ?_⟩
  refine .seq (.of_fn hmo ?_)
  simp -implicitDefEqProofs [go_sem, hRl, ep, hg2, em]
  rw [← htp]
  simp -implicitDefEqProofs [go_sem, ud, etp, enx]
  refine ⟨by omega, by omega, by omega, by kernel_rfl, ?_⟩
  refine .seq (.seq (.of_fn hmo ?_))
  simp -implicitDefEqProofs [go_sem]
  refine .block (.loopI [] (fun (p : Nat × List Nat × List Nat) => ⟨239, kSlots s m tp nx ((p.1 : Int) - 1), kHeap R p.2.1 (List.replicate p.1 0 ++ p.2.2), 1000⟩)
    (fun p => p.2.1.length = nl x + 1 ∧ Small p.2.1 ∧ p.2.2.length + p.1 = d + 1 ∧ Small p.2.2 ∧ x * 2 ^ s = val p.2.1 + 4294967296 ^ p.1 * (val p.2.2 * val R) ∧ val p.2.1 < val R * 4294967296 ^ p.1) (fun p => p.1) (d + 1, (R2 ++ [0, 0]).take (nl x + 1), []) ?_ (by simp) ?_ ?_)
  · have g1 : val (R2 ++ [0, 0]) = x * 2 ^ s := by rw [val_append, hvR2]; simp [val]
    have g2 := lt_pow_nl x
    have g3 := pow_nl_le hy0
    rw [hm, Nat.add_sub_cancel] at g3
    have g4 : x * 2 ^ s < 4294967296 ^ (nl x + 1) := by
      rw [Nat.pow_succ]
      have g5 := pow_s_le hs32
      have g6 : x * 2 ^ s ≤ x * 2147483648 := Nat.mul_le_mul_left _ g5
      generalize 4294967296 ^ nl x = pp at *
      omega
    have g5 : val ((R2 ++ [0, 0]).take (nl x + 1)) = x * 2 ^ s := by rw [val_take_high (by rw [g1]; exact g4), g1]
    refine ⟨by simp; omega, (hsR2.append (small_cons (by decide) (small_cons (by decide) small_nil))).take _, by simp, small_nil, by rw [g5]; simp [val], ?_⟩
    show val ((R2 ++ [0, 0]).take (nl x + 1)) < _
    rw [g5, hvR, Nat.mul_right_comm]
    apply Nat.mul_lt_mul_of_pos_right _ (Nat.pow_pos (by decide))
    have g6 : 4294967296 ^ m * 4294967296 ^ (d + 1) ≤ y * 4294967296 ^ (d + 1) := Nat.mul_le_mul_right _ g3
    rw [← Nat.pow_add, show m + (d + 1) = nl x from by omega] at g6
    show x < y * 4294967296 ^ (d + 1)
    omega
  · simp -implicitDefEqProofs [go_sem]
    simp [les, ud]
  · intro ⟨k, U, Q⟩ ⟨h1, h3, h4, h5, h6, h7⟩
    dsimp only at h1 h3 h4 h5 h6 h7 ⊢
    refine .seq (.of_fn hmo ?_)
    by_cases hk : k = 0
    · subst hk
      have hU0 : val U < val R := by simpa using h7
      have hX0 : x * 2 ^ s = val U + val Q * (y * 2 ^ s) := by rw [← hvR]; simpa using h6
      have hRlt := val_lt hsR
      rw [hRl] at hRlt
      obtain ⟨d1, d2⟩ := div_end hX0 (by rw [← hvR]; exact hU0)
      have hvU : val (U.take (m + 1)) = val U := val_take_high (by omega)
      have hri := right_ok (U.take (m + 1)) s (h3.take _) (by simp; omega) hs32
      rw [hvU, d2] at hri
      have hoq := own_ok Q h5 (by omega)
      rw [d1] at hoq
      have em2 : ((m : Int) + 1).toNat = m + 1 := by omega
      have htk2 : (les U).take (m + 1) = les (U.take (m + 1)) := les_take _ _
      simp -implicitDefEqProofs [go_sem]
      refine .seq (.of_fn hmo ?_)
      simp -implicitDefEqProofs [go_sem, em2, htk2]
      refine ⟨by omega, .inl ⟨_, hri, ?_⟩⟩
      simp -implicitDefEqProofs [go_sem]
      refine .seq (.of_fn hmo ?_)
      simp -implicitDefEqProofs [go_sem]
      refine .inl ⟨_, hoq, ?_⟩
      simp -implicitDefEqProofs [go_sem]
      refine .of_fn hmo ?_
      simp -implicitDefEqProofs [go_sem]
    · have hk1 : (1 : Int) ≤ k := by omega
      obtain ⟨j, rfl⟩ : ∃ j, k = j + 1 := ⟨k - 1, by omega⟩
      have ej : ((j + 1 : Nat) : Int) - 1 = (j : Int) := by omega
      simp only [ej]
      simp -implicitDefEqProofs [go_sem]; (repeat refine And.intro (by first | decide +kernel | omega | kernel_rfl) ?_); (try decide +kernel)
      refine SC.sub (digit_ok (s := s) (d := d) (X := x * 2 ^ s) (n := nl x) (by omega) hRl hsR (tp := tp) (nx := nx) (by rw [List.getElem?_eq_getElem hp1, htp]; rfl) (by rw [show m - 1 = p from by omega, List.getElem?_eq_getElem hp0, hnxt]; rfl) ?_ hn hd h1 h3 h4 h5 h6 h7 0 (fun q U' f1 f2 f3 f4 f5 σ' hs => ?_) _ rfl) (by simp -implicitDefEqProofs [go_sem]) (by simp)
      · have h8 := top_pos hsR hRl (by
          rw [hvR]
          have h9 := pow_nl_le hy0
          rw [hm, Nat.add_sub_cancel] at h9
          exact Nat.le_trans h9 (Nat.le_mul_of_pos_right _ (Nat.pow_pos (by decide))))
        rw [List.getElem?_eq_getElem hp1, ← htp] at h8
        exact h8
      · refine ⟨(j, U', q :: Q), ⟨f2, f3, by show (q :: Q).length + j = d + 1; simp; omega, small_cons f1 h5, ?_, f5⟩, Nat.lt_succ_self j, hs⟩
        show x * 2 ^ s = val U' + 4294967296 ^ j * ((q + 4294967296 * val Q) * val R)
        rw [h6, ← f4, Nat.pow_succ, Nat.add_mul, Nat.mul_add]
        simp only [Nat.mul_assoc, Nat.add_assoc, Nat.mul_left_comm]
end Go.Mt
/-
  A part of the proof.
-/
set_option linter.unusedSimpArgs false
set_option linter.unusedVariables false
namespace Go.Mt
open Go Go.Pm Go.Proofs
set_option maxRecDepth 100000 in
theorem short_ok (l : List Nat) (d : Nat) (hl : Small l) (hln : l.length < 1099511627776) (hd0 : 0 < d) (hd : d < 4294967296) : PCall Try.prog 77 [.d (.sl (les l)), .d (ud d)] (.tup [.d (.sl (les (limbs (val l / d)))), .d (ud (val l % d))]) := by
  refine pcall_of hmo Try.func77 rfl (by kernel_rfl) (by simp [Try.ntmps77]) ?_
  simp -implicitDefEqProofs [go_sem, Try.ntmps77]
  refine ⟨by omega, by omega, ?_⟩

  refine loop_rule [] (fun (p : Nat × List Nat × Nat) => ⟨44, [(0, .d (.sl (les l))), (1, .d (ud d)), (6, .sr 16 0), (7, intP .u64 (p.2.2 : Int)), (8, intP .i64 ((p.1 : Int) - 1))], [(16, .arr ⟨80, 1, 0, false, les (List.replicate p.1 0 ++ p.2.1)⟩)], 1000⟩)
    (fun p => p.1 ≤ l.length ∧ p.2.1.length = l.length - p.1 ∧ Small p.2.1 ∧ p.2.2 < d ∧ val p.2.1 * d + p.2.2 = val (l.drop p.1)) (fun p => p.1) (l.length, [], 0)
    (by refine ⟨by omega, by simp, small_nil, hd0, by simp [val]⟩) (by simp) (by simp -implicitDefEqProofs [go_sem, les, ud]) (fun ⟨k, Q, r⟩ ⟨hk, hQ, hsQ, hr, hv⟩ => ?_)
  dsimp only at hk hQ hsQ hr hv ⊢
  by_cases h0 : k = 0
  · subst h0
    have hown := own_ok Q hsQ (by omega)
    have hv : val Q * d + r = val l := hv
    have hq : val l / d = val Q := by rw [← hv, Nat.mul_comm, Nat.mul_add_div hd0, Nat.div_eq_of_lt hr]; rfl
    have hm : val l % d = r := by rw [← hv, Nat.mul_comm, Nat.mul_add_mod]; exact Nat.mod_eq_of_lt hr
    rw [hq, hm]
    have e : (r : Int) % 4294967296 = r := by omega
    simp -implicitDefEqProofs [go_sem, ud]
    refine .inl ⟨_, hown, ?_⟩
    simp -implicitDefEqProofs [go_sem, e]
  · have h1 : (1 : Int) ≤ k := by omega
    have hkl : k - 1 < l.length := by omega
    have ek : ((k : Int) - 1).toNat = k - 1 := by omega
    obtain ⟨x, hxe⟩ : ∃ x, x = l[k - 1] := ⟨_, rfl⟩
    have hx : x < 4294967296 := hxe ▸ hl _ (List.getElem_mem hkl)
    simp -implicitDefEqProofs [go_sem, h1, hkl, ek]
    rw [← hxe]
    have e1 : (r : Int) * 4294967296 % 18446744073709551616 = (r : Int) * 4294967296 := by omega
    have e2 : (x : Int) % 18446744073709551616 = x := by omega
    have e3 : (d : Int) % 18446744073709551616 = d := by omega
    have e4 : ¬ (d : Int) = 0 := by omega
    have q1 : (((r * 4294967296 + x : Nat) : Int)).tmod (d : Int) = (((r * 4294967296 + x) % d : Nat) : Int) := rfl
    have q2 : (((r * 4294967296 + x : Nat) : Int)).tdiv (d : Int) = (((r * 4294967296 + x) / d : Nat) : Int) := rfl
    have hq := short_q hr hx
    simp -implicitDefEqProofs [go_sem, ud, e1, e2, e3]
    rw [bOr64 hx (by omega), q1, q2, les_get (by simp; omega)]
    have hrd := short_round (l := l) (Q := Q) (i := k - 1) (rr := r) (x := x) (d := d) hkl (by simp [hkl, hxe]) (by rw [show k - 1 + 1 = k by omega]; exact hv)
    have e5 : ∀ q : Nat, q < 4294967296 → ((q : Nat) : Int) % 4294967296 = q := fun q h => by omega
    have hs : (List.replicate k 0 ++ Q).set (k - 1) ((r * 4294967296 + x) / d) = List.replicate (k - 1) 0 ++ (r * 4294967296 + x) / d :: Q := by
      have := set_fill Q (k - 1) ((r * 4294967296 + x) / d)
      rwa [show k - 1 + 1 = k by omega] at this
    refine ⟨by omega, by omega, by omega, ⟨by omega, by omega⟩, k - 1, (r * 4294967296 + x) / d :: Q, (r * 4294967296 + x) % d, ⟨by omega, by simp; omega, small_cons hq hsQ, Nat.mod_lt _ hd0, hrd⟩, by omega, ⟨rfl, by omega⟩, ?_⟩
    rw [e5 _ hq, ← hs, ← les_set]
    rfl
end Go.Mt
