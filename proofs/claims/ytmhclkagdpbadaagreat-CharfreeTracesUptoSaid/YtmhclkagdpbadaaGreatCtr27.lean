/-
  A part of the proof.
-/
import Derived.Test.YtmhclkagdpbadaaGreatCtr11
set_option linter.unusedVariables false
set_option linter.unusedSimpArgs false
set_option linter.unusedSimpArgs false
set_option linter.unusedVariables false
namespace Go.Mt


/-- the fraction that two integers say -/
def ratv (z d : Int) : Rat := Rat.divInt z d

theorem ratv_neg (z d : Int) : ratv (-z) (-d) = ratv z d := Rat.neg_divInt_neg z d
theorem ratv_num {z d : Int} (hd : 0 < d) : (ratv z d).num = z / (Int.gcd z d : Nat) := by
  unfold ratv
  rw [Rat.num_divInt, Int.sign_eq_one_of_pos hd, Int.one_mul, Int.gcd_comm]
theorem ratv_den {z d : Int} (hd : 0 < d) : ((ratv z d).den : Int) = d / (Int.gcd z d : Nat) := by
  unfold ratv
  rw [Rat.den_divInt, if_neg (by omega), Int.natCast_ediv, Int.gcd_comm, Int.natAbs_of_nonneg (Int.le_of_lt hd)]
theorem ratv_self (q : Rat) : ratv q.num q.den = q := Rat.num_divInt_den q
theorem ratv_mul (a b c d : Int) : ratv a b * ratv c d = ratv (a * c) (b * d) := Rat.divInt_mul_divInt ..
theorem ratv_add {b d : Int} (a c : Int) (hb : b ≠ 0) (hd : d ≠ 0) : ratv a b + ratv c d = ratv (a * d + c * b) (b * d) := Rat.divInt_add_divInt _ _ hb hd
theorem den_ne (q : Rat) : ((q.den : Nat) : Int) ≠ 0 := by have := q.den_pos; omega

def gcdI (x y : Int) : Int := (Int.gcd x y : Nat)
/-- the greatest common divisor of the numbers that have come -/
def gcds (l : List Int) : Int := l.foldl gcdI 0
end Go.Mt
/-
  A part of the proof.
-/
set_option linter.unusedSimpArgs false
set_option linter.unusedVariables false
namespace Go.Mt


def sumN : Nat → (Nat → Rat) → Rat
  | 0, _ => 0
  | n + 1, f => sumN n f + f n
theorem sumN_congr {n : Nat} {f g : Nat → Rat} (h : ∀ j, j < n → f j = g j) : sumN n f = sumN n g := by
  induction n with
  | zero => rfl
  | succ n ih => unfold sumN; rw [ih (fun j hj => h j (by omega)), h n (by omega)]
end Go.Mt
/-
  A part of the proof.
-/
set_option linter.unusedSimpArgs false
set_option linter.unusedVariables false
namespace Go.Mt
/-- what is told so far, from what was told -/
def hist (F : List Rat → Rat) : Nat → List Rat
  | 0 => []
  | k + 1 => hist F k ++ [F (hist F k)]
def histN (F : List Rat → Rat) (k : Nat) : Rat := F (hist F k)
theorem hist_eq (F : List Rat → Rat) (k : Nat) : hist F k = (List.range k).map (histN F) := by
  induction k with
  | zero => rfl
  | succ k ih =>
    rw [List.range_succ, List.map_append, ← ih]
    rfl
theorem hist_get (F : List Rat → Rat) {k i : Nat} (h : i < k) : ((hist F k)[i]?).getD 0 = histN F i := by
  rw [hist_eq, List.getElem?_map, List.getElem?_range h]; rfl
theorem hist_len (F : List Rat → Rat) (k : Nat) : (hist F k).length = k := by rw [hist_eq]; simp
def sgn (k : Nat) : Rat := if k % 2 = 1 then -1 else 1
theorem sgn_succ (k : Nat) : sgn (k + 1) = -sgn k := by
  unfold sgn
  by_cases h : k % 2 = 1
  · rw [if_pos h, if_neg (by omega)]; decide +kernel
  · rw [if_neg h, if_pos (by omega)]
theorem sgn_add (a b : Nat) : sgn (a + b) = sgn a * sgn b := by
  induction b with
  | zero => show sgn a = sgn a * 1; rw [Rat.mul_one]
  | succ b ih => rw [← Nat.add_assoc, sgn_succ, ih, sgn_succ]; grind
theorem sgn_sq (a : Nat) : sgn a * sgn a = 1 := by
  unfold sgn; split <;> decide +kernel
theorem sumN_shift (n : Nat) (f : Nat → Rat) : sumN (n + 1) f = f 0 + sumN n (fun j => f (j + 1)) := by
  induction n with
  | zero => simp only [sumN]; grind
  | succ n ih => rw [sumN, ih]; simp only [sumN]; grind
theorem sumN_rev (n : Nat) (f : Nat → Rat) : sumN n f = sumN n (fun j => f (n - 1 - j)) := by
  induction n with
  | zero => rfl
  | succ n ih =>
    rw [sumN, ih, sumN_shift]
    have e : sumN n (fun j => f (n + 1 - 1 - (j + 1))) = sumN n (fun j => f (n - 1 - j)) := sumN_congr fun j hj => by
      congr 1; omega
    rw [e]
    show _ + f n = f n + _
    exact Rat.add_comm _ _
theorem sumN_scale (n : Nat) (c : Rat) (f : Nat → Rat) : sumN n (fun j => c * f j) = c * sumN n f := by
  induction n with
  | zero => simp [sumN]
  | succ n ih => simp only [sumN, ih]; grind
/-- Newton's sums, as the program has them -/
def cF (p : Nat → Rat) (L : List Rat) : Rat := if L.length = 0 then 1 else sumN L.length (fun i => (L[i]?).getD 0 * p (L.length - 1 - i)) / (-((L.length : Int) : Rat))
def cN (p : Nat → Rat) : Nat → Rat := histN (cF p)
theorem cN_zero (p : Nat → Rat) : cN p 0 = 1 := rfl
theorem cN_pos (p : Nat → Rat) {k : Nat} (hk : 0 < k) : cN p k = sumN k (fun i => cN p i * p (k - 1 - i)) / (-((k : Int) : Rat)) := by
  show cF p (hist (cF p) k) = _
  unfold cF
  rw [hist_len, if_neg (by omega)]
  congr 1
  exact sumN_congr fun i hi => by rw [hist_get _ hi]; rfl
/-- and as the document has them -/
def eF (p : Nat → Rat) (L : List Rat) : Rat := if L.length = 0 then 1 else sumN L.length (fun j => sgn j * ((L[L.length - 1 - j]?).getD 0 * p j)) / ((L.length : Int) : Rat)
def eN (p : Nat → Rat) : Nat → Rat := histN (eF p)
theorem eN_zero (p : Nat → Rat) : eN p 0 = 1 := rfl
theorem eN_pos (p : Nat → Rat) {k : Nat} (hk : 0 < k) : eN p k = sumN k (fun j => sgn j * (eN p (k - 1 - j) * p j)) / ((k : Int) : Rat) := by
  show eF p (hist (eF p) k) = _
  unfold eF
  rw [hist_len, if_neg (by omega)]
  congr 1
  exact sumN_congr fun j hj => by rw [hist_get _ (by omega)]; rfl
theorem cN_eq (p : Nat → Rat) (k : Nat) : cN p k = sgn k * eN p k := by
  induction k using Nat.strongRecOn with
  | ind k ih =>
    by_cases h0 : k = 0
    · subst h0; rw [cN_zero, eN_zero, show sgn 0 = 1 from rfl, Rat.mul_one]
    · rw [cN_pos p (by omega), eN_pos p (by omega), sumN_rev k (fun i => cN p i * p (k - 1 - i))]
      have e : sumN k (fun j => cN p (k - 1 - j) * p (k - 1 - (k - 1 - j))) = (-sgn k) * sumN k (fun j => sgn j * (eN p (k - 1 - j) * p j)) := by
        rw [← sumN_scale]
        refine sumN_congr fun j hj => ?_
        rw [ih (k - 1 - j) (by omega)]
        have e1 : k - 1 - (k - 1 - j) = j := by omega
        have e2 : sgn (k - 1 - j) = -sgn k * sgn j := by
          have h1 := sgn_add (k - 1 - j) (j + 1)
          have h2 : k - 1 - j + (j + 1) = k := by omega
          rw [h2, sgn_succ] at h1
          have h3 := sgn_sq j
          rw [h1]; grind
        rw [e1, e2]; grind
      have hi : (-((k : Int) : Rat))⁻¹ = -((k : Int) : Rat)⁻¹ := by
        have h1 : ((k : Int) : Rat) ≠ 0 := fun h => by
          have := Rat.intCast_inj.1 (show ((k : Int) : Rat) = ((0 : Int) : Rat) from h); omega
        have h2 := Rat.mul_inv_cancel _ h1
        have h3 : -((k : Int) : Rat) ≠ 0 := fun h => h1 (by grind)
        have h4 := Rat.inv_mul_cancel _ h3
        generalize (-((k : Int) : Rat))⁻¹ = u at *
        generalize ((k : Int) : Rat)⁻¹ = v at *
        generalize ((k : Int) : Rat) = x at *
        have : u = u * (x * v) := by rw [h2, Rat.mul_one]
        grind
      rw [e, Rat.div_def, Rat.div_def, hi]
      grind
end Go.Mt
