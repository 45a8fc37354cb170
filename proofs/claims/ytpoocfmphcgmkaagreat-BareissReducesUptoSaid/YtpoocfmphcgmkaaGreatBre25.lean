/-
  A part of the proof.
-/
import Derived.Test.YtpoocfmphcgmkaaGreatBre9
set_option linter.unusedVariables false
set_option linter.unusedSimpArgs false
set_option linter.unusedSimpArgs false
set_option linter.unusedVariables false
namespace Go.Mt


theorem val_div_step {l : List Nat} (hl : Small l) (i : Nat) : val l / 4294967296 ^ i = l[i]?.getD 0 + 4294967296 * (val l / 4294967296 ^ (i + 1)) := by
  rw [← val_drop_div hl, ← val_drop_div hl]; exact val_drop' l i

theorem val_div_len {l : List Nat} (hl : Small l) {n : Nat} (h : l.length ≤ n) : val l / 4294967296 ^ n = 0 :=
  Nat.div_eq_of_lt (Nat.lt_of_lt_of_le (val_lt hl) (Nat.pow_le_pow_right (by decide) h))

theorem lt_of_div_lt {a b p : Nat} (h : a / p < b / p) : a < b := by
  rcases Nat.lt_or_ge a b with h1 | h1
  · exact h1
  · exact absurd (Nat.div_le_div_right (c := p) h1) (by omega)

theorem cmp_step_lt {l m : List Nat} (hl : Small l) (hm : Small m) {i : Nat} (he : val l / 4294967296 ^ (i + 1) = val m / 4294967296 ^ (i + 1)) (h : l[i]?.getD 0 < m[i]?.getD 0) : val l < val m := by
  refine lt_of_div_lt (p := 4294967296 ^ i) ?_
  rw [val_div_step hl, val_div_step hm, he]; omega
theorem cmp_step_eq {l m : List Nat} (hl : Small l) (hm : Small m) {i : Nat} (he : val l / 4294967296 ^ (i + 1) = val m / 4294967296 ^ (i + 1)) (h : l[i]?.getD 0 = m[i]?.getD 0) : val l / 4294967296 ^ i = val m / 4294967296 ^ i := by
  rw [val_div_step hl, val_div_step hm, he, h]

/-! ### times a word -/
def smOut (wd s x _y : Nat) : Nat := (x * wd + s) % 4294967296
def smNxt (wd s x _y : Nat) : Nat := (x * wd + s) / 4294967296
theorem smNxt_lt {wd s x y : Nat} (hw : wd < 4294967296) (hx : x < 4294967296) (hs : s < 4294967296) : smNxt wd s x y < 4294967296 := by
  unfold smNxt
  refine Nat.div_lt_of_lt_mul ?_
  have : x * wd ≤ 4294967295 * 4294967295 := Nat.mul_le_mul (by omega) (by omega)
  omega
theorem sm_stp_lt {wd : Nat} (hw : wd < 4294967296) {l l2 : List Nat} (hl : Small l) (k : Nat) : stp (smNxt wd) 0 l l2 k < 4294967296 := by
  induction k with
  | zero => simp [stp]
  | succ k ih => rw [stp]; exact smNxt_lt hw (hl.get k) ih
theorem sm_outs (wd : Nat) (l l2 : List Nat) (k : Nat) : val (outs (smOut wd) (smNxt wd) 0 l l2 k) + 4294967296 ^ k * stp (smNxt wd) 0 l l2 k = val (l.take k) * wd := by
  induction k with
  | zero => simp [outs, stp, val]
  | succ k ih =>
    rw [outs, stp, val_append, length_outs, val_take_succ', Nat.add_mul, ← ih, val_one]
    generalize stp (smNxt wd) 0 l l2 k = s
    generalize l[k]?.getD 0 = x
    unfold smOut smNxt
    have := Nat.mod_add_div (x * wd + s) 4294967296
    rw [Nat.pow_succ]
    generalize (x * wd + s) % 4294967296 = p at *
    generalize (x * wd + s) / 4294967296 = q at *
    generalize 4294967296 ^ k = b at *
    have e : b * x * wd + b * s = b * p + b * 4294967296 * q := by
      rw [Nat.mul_assoc, ← Nat.mul_add, ← this, Nat.mul_add, Nat.mul_assoc]
    omega
theorem sm_end {wd : Nat} (hw : wd < 4294967296) {l : List Nat} (hl : Small l) (l2 : List Nat) : val (outs (smOut wd) (smNxt wd) 0 l l2 (l.length + 1)) = val l * wd := by
  have h := sm_outs wd l l2 (l.length + 1)
  rw [List.take_of_length_le (by omega)] at h
  have h2 : stp (smNxt wd) 0 l l2 (l.length + 1) = 0 := by
    have h3 := val_lt hl
    have h4 : val l * wd < 4294967296 ^ l.length * 4294967296 := Nat.mul_lt_mul'' h3 hw
    rw [Nat.pow_succ] at h
    generalize 4294967296 ^ l.length * 4294967296 = Q at *
    generalize stp (smNxt wd) 0 l l2 (l.length + 1) = s at *
    rcases Nat.eq_zero_or_pos s with h0 | h0
    · exact h0
    · exfalso
      have h5 : Q * 1 ≤ Q * s := Nat.mul_le_mul_left _ h0
      generalize Q * s = R at *
      generalize val l * wd = V at *
      omega
  rw [h2, Nat.mul_zero, Nat.add_zero] at h
  exact h

/-! ### sums and differences: one place more than the longer -/
theorem add_stp_le (l l2 : List Nat) (hl : Small l) (hl2 : Small l2) (k : Nat) : stp addNxt 0 l l2 k ≤ 1 := by
  induction k with
  | zero => simp [stp]
  | succ k ih =>
    rw [stp]
    have := hl.get k; have := hl2.get k
    generalize stp addNxt 0 l l2 k = s at *
    unfold addNxt
    omega
theorem add_end1 {l l2 : List Nat} (hl : Small l) (hl2 : Small l2) {k : Nat} (h1 : l.length ≤ k) (h2 : l2.length ≤ k) : val (outs addOut addNxt 0 l l2 (k + 1)) = val l + val l2 := by
  have h := add_outs l l2 0 (k + 1)
  rw [List.take_of_length_le (by omega), List.take_of_length_le (by omega)] at h
  have h0 : stp addNxt 0 l l2 (k + 1) = 0 := by
    rw [stp, List.getElem?_eq_none (by omega), List.getElem?_eq_none (by omega)]
    have := add_stp_le l l2 hl hl2 k
    generalize stp addNxt 0 l l2 k = s at *
    show (0 + 0 + s) / 4294967296 = 0
    omega
  rw [h0, Nat.mul_zero, Nat.add_zero, Nat.add_zero] at h
  exact h

/-- the next remainder -/
theorem div_rem (X b x : Nat) : (x + 4294967296 * (X % b)) % b = (x + 4294967296 * X) % b := by
  rw [Nat.add_mod, Nat.mul_mod, Nat.mod_mod, ← Nat.mul_mod, ← Nat.add_mod]
/-- the next quotient -/
theorem div_quo (X b x : Nat) (hb : 0 < b) : (x + 4294967296 * X) / b = (x + 4294967296 * (X % b)) / b + 4294967296 * (X / b) := by
  conv => lhs; rw [← Nat.mod_add_div X b]
  rw [Nat.mul_add, ← Nat.add_assoc, show 4294967296 * (b * (X / b)) = b * (4294967296 * (X / b)) by rw [Nat.mul_left_comm], Nat.add_mul_div_left _ _ hb]

/-- bit by bit: the quotient's bits from the top -/
theorem bit_step {r b k : Nat} (hb : 0 < b) : (r / b / 2 ^ (k + 1) * 2 ^ (k + 1) + 2 ^ k) * b ≤ r → r / b / 2 ^ k * 2 ^ k = r / b / 2 ^ (k + 1) * 2 ^ (k + 1) + 2 ^ k := by
  intro h
  have h1 : r / b / 2 ^ (k + 1) * 2 ^ (k + 1) + 2 ^ k ≤ r / b := (Nat.le_div_iff_mul_le hb).2 h
  generalize r / b = q at *
  have e : q / (2 ^ k * 2) = q / 2 ^ k / 2 := (Nat.div_div_eq_div_mul ..).symm
  rw [Nat.pow_succ, e] at h1 ⊢
  have h2 : (2 * (q / 2 ^ k / 2) + 1) * 2 ^ k ≤ q := by
    rw [Nat.add_mul, Nat.one_mul, Nat.mul_comm 2, Nat.mul_assoc, Nat.mul_comm 2]; exact h1
  have h3 := (Nat.le_div_iff_mul_le (Nat.two_pow_pos k)).2 h2
  have h4 : q / 2 ^ k = 2 * (q / 2 ^ k / 2) + 1 := by omega
  conv => lhs; rw [h4]
  rw [Nat.add_mul, Nat.one_mul, Nat.mul_comm 2, Nat.mul_assoc, Nat.mul_comm 2]
theorem bit_stay {r b k : Nat} (hb : 0 < b) : r < (r / b / 2 ^ (k + 1) * 2 ^ (k + 1) + 2 ^ k) * b → r / b / 2 ^ k * 2 ^ k = r / b / 2 ^ (k + 1) * 2 ^ (k + 1) := by
  intro h
  have h1 : r / b < r / b / 2 ^ (k + 1) * 2 ^ (k + 1) + 2 ^ k := (Nat.div_lt_iff_lt_mul hb).2 h
  generalize r / b = q at *
  have e : q / (2 ^ k * 2) = q / 2 ^ k / 2 := (Nat.div_div_eq_div_mul ..).symm
  rw [Nat.pow_succ, e] at h1 ⊢
  have h2 : q < (2 * (q / 2 ^ k / 2) + 1) * 2 ^ k := by
    rw [Nat.add_mul, Nat.one_mul, Nat.mul_comm 2, Nat.mul_assoc, Nat.mul_comm 2]; exact h1
  have h3 := (Nat.div_lt_iff_lt_mul (Nat.two_pow_pos k)).2 h2
  have h4 : q / 2 ^ k = 2 * (q / 2 ^ k / 2) := by omega
  conv => lhs; rw [h4]
  rw [Nat.mul_comm 2, Nat.mul_assoc, Nat.mul_comm 2]

/-! ### the greatest common divisor by halves -/
theorem gcd_half_both {a b : Nat} (ha : a % 2 = 0) (hb : b % 2 = 0) : Nat.gcd a b = 2 * Nat.gcd (a / 2) (b / 2) := by
  conv => lhs; rw [show a = 2 * (a / 2) by omega, show b = 2 * (b / 2) by omega]
  exact Nat.gcd_mul_left ..
theorem gcd_half_left {a b : Nat} (ha : a % 2 = 0) (hb : b % 2 = 1) : Nat.gcd (a / 2) b = Nat.gcd a b := by
  conv => rhs; rw [show a = 2 * (a / 2) by omega]
  refine (Nat.Coprime.gcd_mul_left_cancel _ ?_).symm
  show Nat.gcd 2 b = 1
  rw [Nat.gcd_rec, hb]; rfl
theorem gcd_half_right {a b : Nat} (ha : a % 2 = 1) (hb : b % 2 = 0) : Nat.gcd a (b / 2) = Nat.gcd a b := by
  rw [Nat.gcd_comm, gcd_half_left hb ha, Nat.gcd_comm]
theorem gcd_sub_left {a b : Nat} (h : b ≤ a) : Nat.gcd (a - b) b = Nat.gcd a b := Nat.gcd_sub_self_left h
theorem gcd_sub_right {a b : Nat} (h : a ≤ b) : Nat.gcd a (b - a) = Nat.gcd a b := by
  rw [Nat.gcd_comm, gcd_sub_left h, Nat.gcd_comm]
/-- the lowest limb says whether it is even -/
theorem val_odd {l : List Nat} (h : 0 < l.length) : (l[0]?.getD 0) % 2 = val l % 2 := by
  cases l with
  | nil => simp at h
  | cons x l => simp [val]; omega
end Go.Mt
