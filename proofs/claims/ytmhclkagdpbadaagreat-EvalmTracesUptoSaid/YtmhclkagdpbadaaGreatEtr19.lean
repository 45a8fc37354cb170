/-
  A part of the proof.
-/
import Derived.Test.YtmhclkagdpbadaaGreatEtr17
import Derived.Test.YtmhclkagdpbadaaGreatEtr15
import Derived.Test.YtmhclkagdpbadaaGreatEtr14
import Derived.Test.YtmhclkagdpbadaaGreatEtr18
set_option linter.unusedVariables false
set_option linter.unusedSimpArgs false
set_option linter.unusedSimpArgs false
set_option linter.unusedVariables false
namespace Go.Mt
open Go Go.Pm Go.Proofs
/-- what the loops of nat.long keep: the divisor, the dividend, the digits -/
def kSlots (s m tp nx : Nat) (j : Int) : Slots := [(6, intP .i64 (s : Int)), (7, .sr 48 0), (8, .sr 64 2), (9, intP .i64 ((m : Int) + 1)), (11, .sr 140 0), (12, intP .u64 (tp : Int)), (13, intP .u64 (nx : Int)), (14, intP .i64 j)]
def kHeap (R U O : List Nat) : Heap := [(48, .arr ⟨86, 1, 0, false, les R⟩), (64, .arr ⟨86, 1, 2, false, les U⟩), (140, .arr ⟨86, 1, 0, false, les O⟩)]
attribute [go_sem] kSlots kHeap
def loopsOf : Code → List Code
  | .seq x y => loopsOf x ++ loopsOf y
  | .cond _ x y => loopsOf x ++ loopsOf y
  | .block _ b => loopsOf b
  | .loop b => .loop b :: loopsOf b
  | .scope b => loopsOf b
  | _ => []
def loopN (f : Func) (k : Nat) : Code := match f.body with
  | some c => ((loopsOf c)[k]?).getD .skip
  | none => .skip
def sndOf : Code → Code
  | .seq _ y => y
  | c => c
def unLoop : Code → Code
  | .loop b => b
  | c => c
/-- the work at one digit -/
noncomputable def digit : Code := sndOf (unLoop (loopN Tryz.f275 0))
theorem mask64 {x : Nat} (h : x < 18446744073709551616) : bAnd .u64 (x : Int) 4294967295 = ((x % 4294967296 : Nat) : Int) := by
  show IntKind.u64.wrap (BitVec.ofInt 64 (x : Int) &&& BitVec.ofInt 64 ((4294967295 : Nat) : Int)).toNat = _
  rw [BitVec.ofInt_natCast, BitVec.ofInt_natCast, BitVec.toNat_and, BitVec.toNat_ofNat, BitVec.toNat_ofNat, Nat.mod_eq_of_lt h, Nat.mod_eq_of_lt (by decide), Nat.and_two_pow_sub_one_eq_mod x 32, wrap64]
  omega
@[go_sem] theorem fdiv63 (z : Int) : z.fdiv 9223372036854775808 = z / 9223372036854775808 := Int.fdiv_eq_ediv_of_nonneg _ (by decide)
theorem drop_set_lt {u : List Nat} {i k x : Nat} (h : i < k) : (u.set i x).drop k = u.drop k := by
  apply List.ext_getElem?
  intro t
  rw [List.getElem?_drop, List.getElem?_drop, List.getElem?_set_ne (by omega)]
end Go.Mt
/-
  A part of the proof.
-/
set_option linter.unusedSimpArgs false
set_option linter.unusedVariables false
namespace Go.Mt
open Go Go.Pm Go.Proofs
/-- a guess of a digit, made smaller till it is right or one too many -/
theorem guess_ok {s m tp nx t u2 j Uj V P0 : Nat} {R U O : List Nat} (hT : Tops 4294967296 P0 Uj V tp nx t u2) (hm : 1 ≤ m) (hjm : j + m < U.length) (hUl : U.length < 4398046511104) (e2 : u2 = U[j + m - 1]?.getD 0) (htplt : tp < 4294967296) (hnxlt : nx < 4294967296) (hu2 : u2 < 4294967296)
    (q0 r0 : Nat) (hq064 : q0 < 18446744073709551616) (hst : Uj / V ≤ q0) (hqr : q0 * tp + r0 = t) (hr0 : r0 < 4294967296) {K : Exit → St → Prop}
    (hK : ∀ (q : Nat) (σ' : St), q < 4294967296 → q * V < Uj + V → Uj / V ≤ q → Sub ⟨239, (16, intP .u64 (q : Int)) :: kSlots s m tp nx (j : Int), kHeap R U O, 3000⟩ σ' → σ'.n ≤ 3000 → K .normal σ')
    (σ : St) (hσ : Sub ⟨239, (16, intP .u64 (q0 : Int)) :: (17, intP .u64 (r0 : Int)) :: kSlots s m tp nx (j : Int), kHeap R U O, 2000⟩ σ) (hσn : σ.n ≤ 2000) : SC Tryz.prog false noM.Y (.block 2 (loopN Tryz.f275 1)) K σ := by
  show SC Tryz.prog false noM.Y (.block 2 (.loop _)) K _
  refine .block (.loopI [] (fun (p : Nat × Nat) => ⟨239, (16, intP .u64 (p.1 : Int)) :: (17, intP .u64 (p.2 : Int)) :: kSlots s m tp nx (j : Int), kHeap R U O, 2000⟩)
    (fun p => Uj / V ≤ p.1 ∧ p.1 * tp + p.2 = t ∧ p.2 < 4294967296 ∧ p.1 < 18446744073709551616) (fun p => p.1) (q0, r0) ⟨hst, hqr, hr0, hq064⟩ (fun _ _ => hσn) hσ (fun ⟨q, r⟩ ⟨b1, b2, b3, b4⟩ => ?_))
  dsimp only at b1 b2 b3 b4 ⊢
  have c1 : ((j : Int) + ((m : Int) + 1) - 2).toNat = j + m - 1 := by omega
  have g2 : (les U)[j + m - 1]? = some [ud u2] := by rw [e2]; exact les_get (by omega)
  have c2 : (u2 : Int) % 18446744073709551616 = u2 := by omega
  refine .seq (.of_fn hmo ?_)
  by_cases hbig : 4294967296 ≤ q
  · have hbig' : (4294967296 : Int) ≤ q := by omega
    have hdec := hT.dec b2 (.inl hbig)
    have d1 : ((q : Int) - 1) % 18446744073709551616 = ((q - 1 : Nat) : Int) := by omega
    have d2 : ((r : Int) + tp) % 18446744073709551616 = (r : Int) + tp := by omega
    have hqr2 : (q - 1) * tp + (r + tp) = t := by rw [← b2, ← Nat.add_assoc, Nat.add_right_comm, ← Nat.succ_mul, show (q - 1).succ = q by omega]
    simp -implicitDefEqProofs [go_sem, hbig']
    refine .of_fn hmo ?_
    by_cases hr2 : 4294967296 ≤ r + tp
    · have hr2' : (4294967296 : Int) ≤ (r : Int) + tp := by omega
      obtain ⟨f1, f2⟩ := hT.far hqr2 hr2
      simp -implicitDefEqProofs [go_sem, d1, d2, hr2']
      refine hK (q - 1) _ f1 (hT.fin hqr2 f1 f2) (by omega) ?_ ?_
      · simp -implicitDefEqProofs [go_sem]
      · simp
    · have hr2' : ¬ (4294967296 : Int) ≤ (r : Int) + tp := by omega
      simp -implicitDefEqProofs [go_sem, d1, d2, hr2']
      exact ⟨q - 1, r + tp, ⟨by omega, hqr2, by omega, by omega⟩, by omega, rfl, by simp⟩
  · have hbig' : ¬ (4294967296 : Int) ≤ q := by omega
    have c3 : (r : Int) * 4294967296 % 18446744073709551616 = (r : Int) * 4294967296 := by omega
    have hor2 := bOr64 (x := r) hu2 b3
    have hqn : q * nx ≤ 4294967295 * 4294967295 := Nat.mul_le_mul (by omega) (by omega)
    have c4 : (q : Int) * nx % 18446744073709551616 = ((q * nx : Nat) : Int) := by
      have : (q : Int) * nx = ((q * nx : Nat) : Int) := by simp
      rw [this]; omega
    by_cases hgt : r * 4294967296 + u2 < q * nx
    · have hgt' : ((r * 4294967296 + u2 : Nat) : Int) < ((q * nx : Nat) : Int) := by omega
      have hdec := hT.dec b2 (.inr hgt)
      have hq1 : 0 < q := Nat.pos_of_ne_zero (fun h => by subst h; simp at hgt)
      have d1 : ((q : Int) - 1) % 18446744073709551616 = ((q - 1 : Nat) : Int) := by omega
      have d2 : ((r : Int) + tp) % 18446744073709551616 = (r : Int) + tp := by omega
      have hqr2 : (q - 1) * tp + (r + tp) = t := by rw [← b2, ← Nat.add_assoc, Nat.add_right_comm, ← Nat.succ_mul, show (q - 1).succ = q by omega]
      simp -implicitDefEqProofs [go_sem, hbig', c1, g2, ud, c2, c3]
      rw [hor2, c4]
      refine ⟨by omega, by omega, by omega, ?_⟩
      simp only [decide_eq_true hgt', ifB_true]
      simp -implicitDefEqProofs [go_sem]
      refine .of_fn hmo ?_
      by_cases hr2 : 4294967296 ≤ r + tp
      · have hr2' : (4294967296 : Int) ≤ (r : Int) + tp := by omega
        obtain ⟨f1, f2⟩ := hT.far hqr2 hr2
        simp -implicitDefEqProofs [go_sem, d1, d2, hr2']
        refine hK (q - 1) _ f1 (hT.fin hqr2 f1 f2) (by omega) ?_ ?_
        · simp -implicitDefEqProofs [go_sem]
        · simp
      · have hr2' : ¬ (4294967296 : Int) ≤ (r : Int) + tp := by omega
        simp -implicitDefEqProofs [go_sem, d1, d2, hr2']
        exact ⟨q - 1, r + tp, ⟨by omega, hqr2, by omega, by omega⟩, by omega, rfl, by simp⟩
    · have hgt' : ¬ ((r * 4294967296 + u2 : Nat) : Int) < ((q * nx : Nat) : Int) := by omega
      simp -implicitDefEqProofs [go_sem, hbig', c1, g2, ud, c2, c3]
      rw [hor2, c4]
      refine ⟨by omega, by omega, by omega, ?_⟩
      simp only [decide_eq_false hgt', ifB_false]
      simp -implicitDefEqProofs [go_sem]
      refine hK q _ (by omega) (hT.fin b2 (by omega) (by omega)) b1 ?_ ?_
      · simp -implicitDefEqProofs [go_sem]
      · simp
end Go.Mt
