/-
  Plain laws on fractions: lowest terms, common denominators.
-/
import Derived.Test.YtbhenelehhiakaaGreatSum1
set_option linter.unusedVariables false
set_option linter.unusedSimpArgs false
namespace Go.Proofs.YtbhenelehhiakaaGreat

/-- the fraction that two integers say -/
def ratv (z d : Int) : Rat := Rat.divInt z d

theorem ratv_neg (z d : Int) : ratv (-z) (-d) = ratv z d := Rat.neg_divInt_neg z d
theorem ratv_num {z d : Int} (hd : 0 < d) : (ratv z d).num = z / (Int.gcd z d : Nat) := by
  unfold ratv
  rw [Rat.num_divInt, Int.sign_eq_one_of_pos hd, Int.one_mul, Int.gcd_comm]
theorem ratv_den {z d : Int} (hd : 0 < d) : ((ratv z d).den : Int) = d / (Int.gcd z d : Nat) := by
  unfold ratv
  rw [Rat.den_divInt, if_neg (by omega), Int.natCast_ediv, Int.gcd_comm, Int.natAbs_of_nonneg (Int.le_of_lt hd)]
theorem ratv_self (q : Rat) : ratv q.num q.den = q := Rat.num_divInt_den q
theorem ratv_mul (a b c d : Int) : ratv a b * ratv c d = ratv (a * c) (b * d) := Rat.divInt_mul_divInt ..
theorem ratv_add {b d : Int} (a c : Int) (hb : b ≠ 0) (hd : d ≠ 0) : ratv a b + ratv c d = ratv (a * d + c * b) (b * d) := Rat.divInt_add_divInt _ _ hb hd
theorem ratv_one (z : Int) : ratv z 1 = (z : Rat) := by
  unfold ratv; rw [Rat.divInt_eq_div, Rat.intCast_one, Rat.div_def]; grind
/-- the least common denominator -/
def comDen (qs : List Rat) : Nat := qs.foldl (fun (m : Nat) q => Nat.lcm m q.den) 1
theorem comDen_snoc (qs : List Rat) (q : Rat) : comDen (qs ++ [q]) = Nat.lcm (comDen qs) q.den := by simp [comDen]
theorem comDen_pos (qs : List Rat) : 0 < comDen qs := by
  have key : ∀ (qs : List Rat) (m : Nat), 0 < m → 0 < qs.foldl (fun (m : Nat) q => Nat.lcm m q.den) m := by
    intro qs
    induction qs with
    | nil => intro m hm; exact hm
    | cons q qs ih => intro m hm; exact ih _ (Nat.lcm_pos hm q.den_pos)
  exact key qs 1 (by decide)
theorem comDen_append_dvd (qs ys : List Rat) : comDen qs ∣ comDen (qs ++ ys) := by
  have key : ∀ (ys : List Rat) (m : Nat), m ∣ ys.foldl (fun (m : Nat) q => Nat.lcm m q.den) m := by
    intro ys
    induction ys with
    | nil => intro m; exact Nat.dvd_refl _
    | cons z zs ih => intro m; exact Nat.dvd_trans (Nat.dvd_lcm_left _ _) (ih _)
  unfold comDen
  rw [List.foldl_append]
  exact key ys _
theorem den_dvd_comDen (qs : List Rat) (q : Rat) (hq : q ∈ qs) : q.den ∣ comDen qs := by
  obtain ⟨l, r, rfl⟩ := List.append_of_mem hq
  have : l ++ q :: r = (l ++ [q]) ++ r := by simp
  rw [this]
  refine Nat.dvd_trans ?_ (comDen_append_dvd _ _)
  rw [comDen_snoc]
  exact Nat.dvd_lcm_right _ _
theorem comDen_dvd (qs : List Rat) (D : Nat) (h : ∀ q ∈ qs, q.den ∣ D) : comDen qs ∣ D := by
  have key : ∀ (qs : List Rat) (m : Nat), m ∣ D → (∀ q ∈ qs, q.den ∣ D) → qs.foldl (fun (m : Nat) q => Nat.lcm m q.den) m ∣ D := by
    intro qs
    induction qs with
    | nil => intro m hm _; exact hm
    | cons q qs ih =>
      intro m hm hq
      exact ih _ (Nat.lcm_dvd hm (hq q (List.mem_cons_self ..))) (fun y hy => hq y (List.mem_cons_of_mem _ hy))
  exact key qs 1 (Nat.one_dvd _) h
/-- the numerator over a common denominator -/
def comNum (D : Nat) (q : Rat) : Int := q.num * ((D / q.den : Nat) : Int)
theorem comNum_eq (D : Nat) (q : Rat) (h : q.den ∣ D) : q * ((D : Int) : Rat) = ((comNum D q : Int) : Rat) := by
  obtain ⟨k, rfl⟩ := h
  have hk : q.den * k / q.den = k := Nat.mul_div_cancel_left k q.den_pos
  unfold comNum
  rw [hk]
  have hq : q = ((q.num : Int) : Rat) * ((q.den : Int) : Rat)⁻¹ := by
    conv => lhs; rw [← ratv_self q]
    unfold ratv
    rw [Rat.divInt_eq_div, Rat.div_def]
  have hd : ((q.den : Int) : Rat) ≠ 0 := by
    have := q.den_pos
    exact fun e => by have := Rat.intCast_inj.1 (show ((q.den : Int) : Rat) = ((0 : Int) : Rat) from e); omega
  rw [Int.natCast_mul, Rat.intCast_mul, Rat.intCast_mul]
  generalize ((q.den : Int) : Rat) = d at *
  generalize ((q.num : Int) : Rat) = m at *
  generalize ((k : Int) : Rat) = t
  rw [hq]
  have : d⁻¹ * d = 1 := Rat.inv_mul_cancel _ hd
  rw [Rat.mul_assoc, ← Rat.mul_assoc d⁻¹, this, Rat.one_mul]
end Go.Proofs.YtbhenelehhiakaaGreat
