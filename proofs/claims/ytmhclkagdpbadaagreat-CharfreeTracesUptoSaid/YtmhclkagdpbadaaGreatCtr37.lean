/-
  A part of the proof.
-/
import Derived.Test.YtmhclkagdpbadaaGreatCtr27
import Derived.Test.YtmhclkagdpbadaaGreatCtr35
set_option linter.unusedVariables false
set_option linter.unusedSimpArgs false
set_option linter.unusedSimpArgs false
set_option linter.unusedVariables false
namespace Go.Mt
theorem ql_zero : ql 0 = 1 := by decide +kernel
theorem ql_one : ql 1 = 1 := by decide +kernel
theorem ql_sum (n : Nat) (f : Nat → Rat) (b : Nat → Nat) (h : ∀ i, i < n → ql (f i) + 1 ≤ b i) : ql (sumN n f) ≤ 1 + ((List.range n).map b).sum := by
  induction n with
  | zero => show ql 0 ≤ _; rw [ql_zero]; omega
  | succ n ih =>
    have h1 := ih (fun i hi => h i (by omega))
    have h2 := h n (by omega)
    have h3 := ql_add (sumN n f) (f n)
    rw [sumN, List.range_succ, List.map_append, List.sum_append_nat]
    simp only [List.map_cons, List.map_nil, List.sum_cons, List.sum_nil]
    omega
theorem pow_sum (k : Nat) (M : Nat) : M + ((List.range k).map fun i => 2 ^ i * M).sum = 2 ^ k * M := by
  induction k with
  | zero => simp
  | succ k ih =>
    rw [List.range_succ, List.map_append, List.sum_append_nat, ← Nat.add_assoc, ih, Nat.pow_succ]
    simp only [List.map_cons, List.map_nil, List.sum_cons, List.sum_nil]
    rw [Nat.mul_comm (2 ^ k) 2, Nat.mul_assoc]
    omega
theorem ql_neg_int {k : Nat} (hk : 0 < k) (hk2 : k < 4294967296) : ql (-((k : Int) : Rat)) ≤ 1 := by
  rw [ql_neg]
  show max (nl (((k : Nat) : Int) : Rat).num.natAbs) (nl (((k : Nat) : Int) : Rat).den) ≤ 1
  rw [Rat.num_intCast, Rat.den_intCast, Int.natAbs_natCast]
  have h1 : nl 1 = 1 := by decide
  have h2 : nl k ≤ 1 := nl_le_of_lt (by simpa using hk2)
  omega
theorem neg_int_ne {k : Nat} (hk : 0 < k) : -((k : Int) : Rat) ≠ 0 := fun h => by
  have h1 : ((k : Int) : Rat) = 0 := by grind
  have := Rat.intCast_inj.1 (show ((k : Int) : Rat) = ((0 : Int) : Rat) from h1)
  omega
/-- how long the coefficients are -/
theorem cN_ql {p : Nat → Rat} {B : Nat} (hp : ∀ i, ql (p i) ≤ B) (k : Nat) (hk : k < 4294967296) : ql (cN p k) + B + 1 ≤ 2 ^ k * (B + 3) := by
  induction k using Nat.strongRecOn with
  | ind k ih =>
    by_cases h0 : k = 0
    · subst h0; rw [cN_zero, ql_one]; omega
    · have h1 := ql_sum k (fun i => cN p i * p (k - 1 - i)) (fun i => 2 ^ i * (B + 3)) (fun i hi => by
        have h2 := ih i hi (by omega)
        have h3 := ql_mul (cN p i) (p (k - 1 - i))
        have h4 := hp (k - 1 - i)
        omega)
      have h2 := pow_sum k (B + 3)
      rw [cN_pos p (by omega)]
      have h3 := ql_div (sumN k fun i => cN p i * p (k - 1 - i)) (-((k : Int) : Rat)) (neg_int_ne (by omega))
      have h4 := ql_neg_int (k := k) (by omega) (by omega)
      omega
theorem cS_ql {p : Nat → Rat} {B : Nat} (hp : ∀ i, ql (p i) ≤ B) (k j : Nat) (hj : j ≤ k) (hk : k < 4294967296) : ql (sumN j fun i => cN p i * p (k - 1 - i)) ≤ 2 ^ j * (B + 3) := by
  have h1 := ql_sum j (fun i => cN p i * p (k - 1 - i)) (fun i => 2 ^ i * (B + 3)) (fun i hi => by
    have h2 := cN_ql hp i (by omega)
    have h3 := ql_mul (cN p i) (p (k - 1 - i))
    have h4 := hp (k - 1 - i)
    omega)
  have h2 := pow_sum j (B + 3)
  omega
theorem ql_sgn (k : Nat) (q : Rat) : ql (sgn k * q) = ql q := by
  unfold sgn
  split
  · have e : -1 * q = -q := by grind
    rw [e, ql_neg]
  · have e : 1 * q = q := by grind
    rw [e]
theorem eN_sgn (p : Nat → Rat) (k : Nat) : eN p k = sgn k * cN p k := by
  rw [cN_eq, ← Rat.mul_assoc, sgn_sq, Rat.one_mul]
theorem eN_ql {p : Nat → Rat} {B : Nat} (hp : ∀ i, ql (p i) ≤ B) (k : Nat) (hk : k < 4294967296) : ql (eN p k) + B + 1 ≤ 2 ^ k * (B + 3) := by
  rw [eN_sgn, ql_sgn]; exact cN_ql hp k hk
theorem eS_ql {p : Nat → Rat} {B : Nat} (hp : ∀ i, ql (p i) ≤ B) (k j : Nat) (hj : j ≤ k) (hk : k < 4294967296) : ql (sumN j fun i => sgn i * (eN p (k - 1 - i) * p i)) ≤ 2 ^ k * (B + 3) := by
  have key : ∀ (j : Nat) (f : Nat → Nat), ((List.range j).map f).sum ≤ ((List.range j).map f).sum := fun _ _ => Nat.le_refl _
  have h1 := ql_sum j (fun i => sgn i * (eN p (k - 1 - i) * p i)) (fun i => 2 ^ (k - 1 - i) * (B + 3)) (fun i hi => by
    rw [ql_sgn]
    have h2 := eN_ql hp (k - 1 - i) (by omega)
    have h3 := ql_mul (eN p (k - 1 - i)) (p i)
    have h4 := hp i
    omega)
  have h5 : ∀ j, j ≤ k → ((List.range j).map fun i => 2 ^ (k - 1 - i) * (B + 3)).sum + 2 ^ (k - j) * (B + 3) = 2 ^ k * (B + 3) := by
    intro j
    induction j with
    | zero => intro _; simp
    | succ j ih =>
      intro hj
      have h6 := ih (by omega)
      rw [List.range_succ, List.map_append, List.sum_append_nat]
      simp only [List.map_cons, List.map_nil, List.sum_cons, List.sum_nil]
      have e1 : k - j = (k - (j + 1)) + 1 := by omega
      have e2 : k - 1 - j = k - (j + 1) := by omega
      rw [e1, Nat.pow_succ, Nat.mul_comm (2 ^ (k - (j + 1))) 2, Nat.mul_assoc] at h6
      rw [e2]
      omega
  have h6 := h5 j hj
  have h7 : 0 < 2 ^ (k - j) := Nat.two_pow_pos _
  have h8 : B + 3 ≤ 2 ^ (k - j) * (B + 3) := Nat.le_mul_of_pos_left _ h7
  omega
end Go.Mt
