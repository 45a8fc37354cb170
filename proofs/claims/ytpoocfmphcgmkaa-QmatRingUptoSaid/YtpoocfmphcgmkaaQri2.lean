/-
  A part of the proof.
-/
import Derived.Test.YtpoocfmphcgmkaaQri1
set_option linter.unusedVariables false
set_option linter.unusedSimpArgs false
set_option linter.unusedSimpArgs false
set_option linter.unusedVariables false
namespace Go.Mt


/-- the fraction that two integers say -/
def ratv (z d : Int) : Rat := Rat.divInt z d

theorem ratv_neg (z d : Int) : ratv (-z) (-d) = ratv z d := Rat.neg_divInt_neg z d
theorem ratv_num {z d : Int} (hd : 0 < d) : (ratv z d).num = z / (Int.gcd z d : Nat) := by
  unfold ratv
  rw [Rat.num_divInt, Int.sign_eq_one_of_pos hd, Int.one_mul, Int.gcd_comm]
theorem ratv_den {z d : Int} (hd : 0 < d) : ((ratv z d).den : Int) = d / (Int.gcd z d : Nat) := by
  unfold ratv
  rw [Rat.den_divInt, if_neg (by omega), Int.natCast_ediv, Int.gcd_comm, Int.natAbs_of_nonneg (Int.le_of_lt hd)]
theorem ratv_self (q : Rat) : ratv q.num q.den = q := Rat.num_divInt_den q
theorem ratv_mul (a b c d : Int) : ratv a b * ratv c d = ratv (a * c) (b * d) := Rat.divInt_mul_divInt ..
theorem ratv_add {b d : Int} (a c : Int) (hb : b ≠ 0) (hd : d ≠ 0) : ratv a b + ratv c d = ratv (a * d + c * b) (b * d) := Rat.divInt_add_divInt _ _ hb hd
theorem ratv_one (z : Int) : ratv z 1 = (z : Rat) := by
  unfold ratv; rw [Rat.divInt_eq_div, Rat.intCast_one, Rat.div_def]; grind
theorem den_ne (q : Rat) : ((q.den : Nat) : Int) ≠ 0 := by have := q.den_pos; omega

/-- the least common denominator -/
def comDen (qs : List Rat) : Nat := qs.foldl (fun (m : Nat) q => Nat.lcm m q.den) 1
theorem comDen_snoc (qs : List Rat) (q : Rat) : comDen (qs ++ [q]) = Nat.lcm (comDen qs) q.den := by simp [comDen]
theorem comDen_pos (qs : List Rat) : 0 < comDen qs := by
  have key : ∀ (qs : List Rat) (m : Nat), 0 < m → 0 < qs.foldl (fun (m : Nat) q => Nat.lcm m q.den) m := by
    intro qs
    induction qs with
    | nil => intro m hm; exact hm
    | cons q qs ih => intro m hm; exact ih _ (Nat.lcm_pos hm q.den_pos)
  exact key qs 1 (by decide)
theorem comDen_append_dvd (qs ys : List Rat) : comDen qs ∣ comDen (qs ++ ys) := by
  have key : ∀ (ys : List Rat) (m : Nat), m ∣ ys.foldl (fun (m : Nat) q => Nat.lcm m q.den) m := by
    intro ys
    induction ys with
    | nil => intro m; exact Nat.dvd_refl _
    | cons z zs ih => intro m; exact Nat.dvd_trans (Nat.dvd_lcm_left _ _) (ih _)
  unfold comDen
  rw [List.foldl_append]
  exact key ys _
theorem den_dvd_comDen (qs : List Rat) (q : Rat) (hq : q ∈ qs) : q.den ∣ comDen qs := by
  obtain ⟨l, r, rfl⟩ := List.append_of_mem hq
  have : l ++ q :: r = (l ++ [q]) ++ r := by simp
  rw [this]
  refine Nat.dvd_trans ?_ (comDen_append_dvd _ _)
  rw [comDen_snoc]
  exact Nat.dvd_lcm_right _ _
theorem comDen_dvd (qs : List Rat) (D : Nat) (h : ∀ q ∈ qs, q.den ∣ D) : comDen qs ∣ D := by
  have key : ∀ (qs : List Rat) (m : Nat), m ∣ D → (∀ q ∈ qs, q.den ∣ D) → qs.foldl (fun (m : Nat) q => Nat.lcm m q.den) m ∣ D := by
    intro qs
    induction qs with
    | nil => intro m hm _; exact hm
    | cons q qs ih =>
      intro m hm hq
      exact ih _ (Nat.lcm_dvd hm (hq q (List.mem_cons_self ..))) (fun y hy => hq y (List.mem_cons_of_mem _ hy))
  exact key qs 1 (Nat.one_dvd _) h
/-- the numerator over a common denominator -/
def comNum (D : Nat) (q : Rat) : Int := q.num * ((D / q.den : Nat) : Int)
theorem comNum_eq (D : Nat) (q : Rat) (h : q.den ∣ D) : q * ((D : Int) : Rat) = ((comNum D q : Int) : Rat) := by
  obtain ⟨k, rfl⟩ := h
  have hk : q.den * k / q.den = k := Nat.mul_div_cancel_left k q.den_pos
  unfold comNum
  rw [hk]
  have hq : q = ((q.num : Int) : Rat) * ((q.den : Int) : Rat)⁻¹ := by
    conv => lhs; rw [← ratv_self q]
    unfold ratv
    rw [Rat.divInt_eq_div, Rat.div_def]
  have hd : ((q.den : Int) : Rat) ≠ 0 := by
    have := q.den_pos
    exact fun e => by have := Rat.intCast_inj.1 (show ((q.den : Int) : Rat) = ((0 : Int) : Rat) from e); omega
  rw [Int.natCast_mul, Rat.intCast_mul, Rat.intCast_mul]
  generalize ((q.den : Int) : Rat) = d at *
  generalize ((q.num : Int) : Rat) = m at *
  generalize ((k : Int) : Rat) = t
  rw [hq]
  have : d⁻¹ * d = 1 := Rat.inv_mul_cancel _ hd
  rw [Rat.mul_assoc, ← Rat.mul_assoc d⁻¹, this, Rat.one_mul]
def gcdI (x y : Int) : Int := (Int.gcd x y : Nat)
/-- the greatest common divisor of the numbers that have come -/
def gcds (l : List Int) : Int := l.foldl gcdI 0
theorem gcds_snoc (l : List Int) (x : Int) : gcds (l ++ [x]) = gcdI (gcds l) x := by simp [gcds]

theorem gcds_dvd (l : List Int) (x : Int) (hx : x ∈ l) : gcds l ∣ x := by
  have key : ∀ (l : List Int) (z : Int), l.foldl gcdI z ∣ z ∧ ∀ x ∈ l, l.foldl gcdI z ∣ x := by
    intro l
    induction l with
    | nil => intro z; exact ⟨Int.dvd_refl z, fun x hx => by simp at hx⟩
    | cons y l ih =>
      intro z
      obtain ⟨h1, h2⟩ := ih (gcdI z y)
      refine ⟨Int.dvd_trans h1 (by unfold gcdI; exact Int.gcd_dvd_left ..), fun x hx => ?_⟩
      rcases List.mem_cons.1 hx with rfl | hx
      · exact Int.dvd_trans h1 (by unfold gcdI; exact Int.gcd_dvd_right ..)
      · exact h2 x hx
  exact (key l 0).2 x hx

/-- how many columns -/
def colsOf {α : Type} (xss : List (List α)) : Nat := match xss with | [] => 0 | xs :: _ => xs.length

/-- what made divides by, its denominator, its rows -/
def madeG (d : Int) (zs : List Int) : Int := if d < 0 then -(gcdI (gcds zs) d) else gcdI (gcds zs) d
def madeDen (d : Int) (zss : List (List Int)) : Int := if colsOf zss = 0 then 1 else d / madeG d zss.flatten
def madeRows (d : Int) (zss : List (List Int)) : List (List Int) := zss.map fun zs => zs.map fun z => z / madeG d zss.flatten
def tableZ (zs : Nat → Nat → Int) (r c : Nat) : List (List Int) := (List.range r).map fun i => (List.range c).map fun k => zs i k

def sumZ : Nat → (Nat → Int) → Int
  | 0, _ => 0
  | n + 1, f => sumZ n f + f n
/-- one entry -/
def entry (zss : List (List Int)) (i j : Nat) : Int := (((zss[i]?).getD [])[j]?).getD 0
/-- the product's entries -/
def mulZ (zss zss' : List (List Int)) (n i k : Nat) : Int := sumZ n fun j => entry zss i j * entry zss' j k
/-- the rows' fractions -/
def fracs (d : Int) (zss : List (List Int)) : List (List Rat) := zss.map fun zs => zs.map fun z => ratv z d
end Go.Mt
/-
  A part of the proof.
-/
set_option linter.unusedSimpArgs false
set_option linter.unusedVariables false
namespace Go.Mt


theorem dvd_mul_gcdI {D c x y : Int} (hx : D ∣ c * x) (hy : D ∣ c * y) : D ∣ c * gcdI x y := by
  have h := Int.dvd_coe_gcd hx hy
  rw [Int.gcd_mul_left] at h
  unfold gcdI
  rcases Int.natAbs_eq c with hc | hc
  · rw [hc, ← Int.natCast_mul]; exact h
  · rw [hc, Int.neg_mul, ← Int.natCast_mul]; exact Int.dvd_neg.2 h
theorem dvd_mul_gcds (D c : Int) (l : List Int) (h : ∀ z ∈ l, D ∣ c * z) : D ∣ c * gcds l := by
  have key : ∀ (l : List Int) (x : Int), D ∣ c * x → (∀ z ∈ l, D ∣ c * z) → D ∣ c * l.foldl gcdI x := by
    intro l
    induction l with
    | nil => intro x hx _; exact hx
    | cons y ys ih =>
      intro x hx hl
      refine ih _ ?_ (fun z hz => hl z (List.mem_cons_of_mem _ hz))
      exact dvd_mul_gcdI hx (hl y (List.mem_cons_self ..))
  exact key l 0 (by simp) h

/-- the made denominator, as a positive number -/
theorem made_split (D : Int) (hD : D ≠ 0) (L : List Int) : ∃ g e : Int, g = madeG D L ∧ g ≠ 0 ∧ 0 < e ∧ D = g * e ∧ (∀ z ∈ L, g ∣ z) ∧ (∀ c : Int, (∀ z ∈ L, D ∣ c * z) → e ∣ c) := by
  have hG0 : gcdI (gcds L) D ≠ 0 := by
    unfold gcdI; intro h
    have : Int.gcd (gcds L) D = 0 := by omega
    exact hD (Int.gcd_eq_zero_iff.1 this).2
  have hGp : 0 < gcdI (gcds L) D := by unfold gcdI at *; omega
  have hGd : gcdI (gcds L) D ∣ D := Int.gcd_dvd_right ..
  have hGz : ∀ z ∈ L, gcdI (gcds L) D ∣ z := fun z hz => Int.dvd_trans (Int.gcd_dvd_left ..) (gcds_dvd L z hz)
  obtain ⟨k, hk⟩ := hGd
  have hmain : ∀ c : Int, (∀ z ∈ L, D ∣ c * z) → D ∣ c * gcdI (gcds L) D := fun c hc => dvd_mul_gcdI (dvd_mul_gcds D c L hc) (Int.dvd_mul_left ..)
  generalize hGe : gcdI (gcds L) D = G at *
  have hkc : ∀ c : Int, D ∣ c * G → k ∣ c := by
    rintro c ⟨t, ht⟩
    refine ⟨t, ?_⟩
    have : G * c = G * (k * t) := by rw [Int.mul_comm G c, ht, hk, Int.mul_assoc]
    exact Int.eq_of_mul_eq_mul_left hG0 this
  by_cases hs : D < 0
  · refine ⟨-G, -k, ?_, by omega, ?_, by rw [Int.neg_mul_neg]; exact hk, fun z hz => Int.neg_dvd.2 (hGz z hz), fun c hc => Int.neg_dvd.2 (hkc c (hmain c hc))⟩
    · unfold madeG; rw [if_pos hs, hGe]
    · rw [hk] at hs
      have : ¬ 0 ≤ k := fun h => by have := Int.mul_le_mul_of_nonneg_left h (Int.le_of_lt hGp); simp at this; omega
      omega
  · refine ⟨G, k, ?_, hG0, ?_, hk, hGz, fun c hc => hkc c (hmain c hc)⟩
    · unfold madeG; rw [if_neg hs, hGe]
    · have h0 : 0 < G * k := by omega
      have : ¬ k ≤ 0 := fun h => by have := Int.mul_le_mul_of_nonneg_left h (Int.le_of_lt hGp); simp at this; omega
      omega

theorem ratv_scale {g : Int} (hg : g ≠ 0) (k e : Int) : ratv (g * k) (g * e) = ratv k e := Rat.divInt_mul_left hg

theorem made_com (D : Int) (hD : D ≠ 0) (L : List Int) : ((comDen (L.map fun z => ratv z D) : Nat) : Int) = D / madeG D L ∧ ∀ z ∈ L, comNum (comDen (L.map fun z => ratv z D)) (ratv z D) = z / madeG D L := by
  obtain ⟨g, e, hg, hg0, he, hDe, hz, hc⟩ := made_split D hD L
  rw [← hg]
  have hdiv : D / g = e := by rw [hDe, Int.mul_ediv_cancel_left _ hg0]
  have hq : ∀ z ∈ L, ∃ k, z = g * k ∧ ratv z D = ratv k e := fun z hm => by
    obtain ⟨k, hk⟩ := hz z hm
    exact ⟨k, hk, by rw [hk, hDe, ratv_scale hg0]⟩
  have hcom : ((comDen (L.map fun z => ratv z D) : Nat) : Int) = e := by
    have h1 : comDen (L.map fun z => ratv z D) ∣ e.toNat := by
      refine comDen_dvd _ _ fun q hm => ?_
      obtain ⟨z, hz1, rfl⟩ := List.mem_map.1 hm
      obtain ⟨k, _, hk⟩ := hq z hz1
      rw [hk]
      have h2 := ratv_den (z := k) (d := e) he
      have h3 : (((ratv k e).den : Nat) : Int) ∣ e := by
        rw [h2]
        obtain ⟨t, ht⟩ : ((Int.gcd k e : Nat) : Int) ∣ e := Int.gcd_dvd_right ..
        have ht0 : ((Int.gcd k e : Nat) : Int) ≠ 0 := fun h => by rw [h] at ht; omega
        exact ⟨(Int.gcd k e : Nat), by
          have : e / ((Int.gcd k e : Nat) : Int) = t := by
            conv => lhs; lhs; rw [ht]
            exact Int.mul_ediv_cancel_left _ ht0
          rw [this, Int.mul_comm]; exact ht⟩
      have : (((ratv k e).den : Nat) : Int) ∣ ((e.toNat : Nat) : Int) := by rw [Int.toNat_of_nonneg (by omega)]; exact h3
      exact Int.natCast_dvd_natCast.1 this
    have h2 : e ∣ ((comDen (L.map fun z => ratv z D) : Nat) : Int) := by
      refine hc _ fun z hm => ?_
      obtain ⟨k, hk, hk2⟩ := hq z hm
      have hd : (ratv z D).den ∣ comDen (L.map fun z => ratv z D) := den_dvd_comDen _ _ (List.mem_map.2 ⟨z, hm, rfl⟩)
      have hmul := comNum_eq _ _ hd
      generalize comDen (L.map fun z => ratv z D) = C at *
      refine ⟨comNum C (ratv z D), ?_⟩
      have hDq : ((D : Int) : Rat) ≠ 0 := fun e => hD (Rat.intCast_inj.1 (show ((D : Int) : Rat) = ((0 : Int) : Rat) from e))
      have hv : ratv z D = (z : Rat) * (D : Rat)⁻¹ := by unfold ratv; rw [Rat.divInt_eq_div, Rat.div_def]
      have : (((C : Int) * z : Int) : Rat) = ((D * comNum C (ratv z D) : Int) : Rat) := by
        rw [Rat.intCast_mul, Rat.intCast_mul, ← hmul, hv]
        have h1 : (D : Rat) * (D : Rat)⁻¹ = 1 := Rat.mul_inv_cancel _ hDq
        generalize ((D : Int) : Rat) = d at *
        generalize d⁻¹ = di at *
        grind
      exact Rat.intCast_inj.1 this
    have h3 : ((comDen (L.map fun z => ratv z D) : Nat) : Int) ∣ e := by
      have := Int.natCast_dvd_natCast.2 h1
      rwa [Int.toNat_of_nonneg (by omega)] at this
    have hp := comDen_pos (L.map fun z => ratv z D)
    exact Int.dvd_antisymm (by omega) (by omega) h3 h2
  refine ⟨by rw [hcom, hdiv], fun z hm => ?_⟩
  have hd : (ratv z D).den ∣ comDen (L.map fun z => ratv z D) := den_dvd_comDen _ _ (List.mem_map.2 ⟨z, hm, rfl⟩)
  have hmul := comNum_eq _ _ hd
  generalize comDen (L.map fun z => ratv z D) = C at *
  obtain ⟨k, hk, hk2⟩ := hq z hm
  have hzk : z / g = k := by rw [hk, Int.mul_ediv_cancel_left _ hg0]
  rw [hzk]
  rw [hcom] at hmul
  have heq : ((e : Int) : Rat) ≠ 0 := fun h => by have := Rat.intCast_inj.1 (show ((e : Int) : Rat) = ((0 : Int) : Rat) from h); omega
  have hv : ratv k e = (k : Rat) * (e : Rat)⁻¹ := by unfold ratv; rw [Rat.divInt_eq_div, Rat.div_def]
  have : ((comNum C (ratv z D) : Int) : Rat) = ((k : Int) : Rat) := by
    rw [← hmul, hk2, hv]
    have h1 : (e : Rat)⁻¹ * (e : Rat) = 1 := Rat.inv_mul_cancel _ heq
    rw [Rat.mul_assoc, h1, Rat.mul_one]
  exact Rat.intCast_inj.1 this

/-- what is made is the normal form of its fractions -/
theorem made_normal (D : Int) (hD : D ≠ 0) (B : List (List Int)) (hev : ∀ zs ∈ B, zs.length = colsOf B) :
    ((comDen (B.map fun zs => zs.map fun z => ratv z D).flatten : Nat) : Int) = madeDen D B ∧ ((B.map fun zs => zs.map fun z => ratv z D).map fun qs => qs.map (comNum (comDen (B.map fun zs => zs.map fun z => ratv z D).flatten))) = madeRows D B := by
  have hfl : (B.map fun zs => zs.map fun z => ratv z D).flatten = B.flatten.map fun z => ratv z D := (List.map_flatten ..).symm
  rw [hfl]
  obtain ⟨h1, h2⟩ := made_com D hD B.flatten
  refine ⟨?_, ?_⟩
  · unfold madeDen
    split
    · rename_i h0
      have : B.flatten = [] := by
        refine List.flatten_eq_nil_iff.2 fun zs hm => ?_
        have := hev zs hm
        rw [h0] at this
        exact List.length_eq_zero_iff.1 this
      rw [this]; rfl
    · exact h1
  · unfold madeRows
    rw [List.map_map]
    refine List.map_congr_left fun zs hm => ?_
    simp only [Function.comp, List.map_map]
    exact List.map_congr_left fun z hz => h2 z (List.mem_flatten.2 ⟨zs, hm, hz⟩)
/-- the normal form's denominator and numerators -/
def nrmD (qss : List (List Rat)) : Nat := comDen qss.flatten
def nrmZ (qss : List (List Rat)) : List (List Int) := qss.map fun qs => qs.map (comNum (nrmD qss))
theorem made_nrm (D : Int) (hD : D ≠ 0) (B : List (List Int)) (hev : ∀ zs ∈ B, zs.length = colsOf B) : madeDen D B = ((nrmD (fracs D B) : Nat) : Int) ∧ madeRows D B = nrmZ (fracs D B) := by
  obtain ⟨h1, h2⟩ := made_normal D hD B hev
  exact ⟨h1.symm, h2.symm⟩

theorem ratv_comNum (D : Nat) (hD : 0 < D) (q : Rat) (h : q.den ∣ D) : ratv (comNum D q) D = q := by
  have h0 : ((D : Int) : Rat) ≠ 0 := fun e => by have := Rat.intCast_inj.1 (show ((D : Int) : Rat) = ((0 : Int) : Rat) from e); omega
  unfold ratv
  rw [Rat.divInt_eq_div, ← comNum_eq D q h, Rat.div_def, Rat.mul_assoc, Rat.mul_inv_cancel _ h0, Rat.mul_one]

theorem nl_comNum {K KL D : Nat} {q : Rat} (hq : nl q.num.natAbs ≤ K) (hD : nl D ≤ KL) : nl (comNum D q).natAbs ≤ K + KL := by
  unfold comNum
  rw [Int.natAbs_mul, Int.natAbs_natCast]
  have h1 := nl_mul q.num.natAbs (D / q.den)
  have h2 := nl_mono (Nat.div_le_self D q.den)
  omega

end Go.Mt
/-
  A part of the proof.
-/
set_option linter.unusedSimpArgs false
set_option linter.unusedVariables false
namespace Go.Mt


def sumN : Nat → (Nat → Rat) → Rat
  | 0, _ => 0
  | n + 1, f => sumN n f + f n
def tabQ (f : Nat → Nat → Rat) (r c : Nat) : List (List Rat) := (List.range r).map fun i => (List.range c).map fun k => f i k
def entQ (qss : List (List Rat)) (i j : Nat) : Rat := (((qss[i]?).getD [])[j]?).getD 0

theorem sumN_congr {n : Nat} {f g : Nat → Rat} (h : ∀ j, j < n → f j = g j) : sumN n f = sumN n g := by
  induction n with
  | zero => rfl
  | succ n ih => unfold sumN; rw [ih (fun j hj => h j (by omega)), h n (by omega)]
theorem tabQ_congr {r c : Nat} {f g : Nat → Nat → Rat} (h : ∀ i k, i < r → k < c → f i k = g i k) : tabQ f r c = tabQ g r c := by
  unfold tabQ
  refine List.map_congr_left fun i hi => List.map_congr_left fun k hk => h i k (List.mem_range.1 hi) (List.mem_range.1 hk)
theorem fracs_table (D : Int) (f : Nat → Nat → Int) (r c : Nat) : fracs D (tableZ f r c) = tabQ (fun i k => ratv (f i k) D) r c := by
  unfold fracs tableZ tabQ
  rw [List.map_map]
  refine List.map_congr_left fun i _ => ?_
  simp only [Function.comp, List.map_map]
  rfl
theorem ratv_z (d : Int) : ratv 0 d = 0 := Rat.zero_divInt d
theorem entQ_fracs (d : Int) (zss : List (List Int)) (i j : Nat) : entQ (fracs d zss) i j = ratv (entry zss i j) d := by
  unfold entQ entry fracs
  rw [List.getElem?_map]
  cases zss[i]? with
  | none => exact (ratv_z d).symm
  | some zs =>
    simp only [Option.map_some, Option.getD_some, List.getElem?_map]
    cases zs[j]? with
    | none => exact (ratv_z d).symm
    | some z => rfl
theorem ratv_add1 (x y : Int) {D : Int} (hD : D ≠ 0) : ratv (x + y) D = ratv x D + ratv y D := by
  rw [ratv_add _ _ hD hD, ← Int.add_mul, Int.mul_comm (x + y) D]
  exact (Rat.divInt_mul_left hD).symm
theorem ratv_sum {D : Int} (hD : D ≠ 0) (n : Nat) (f : Nat → Int) : ratv (sumZ n f) D = sumN n fun j => ratv (f j) D := by
  induction n with
  | zero => exact ratv_z D
  | succ n ih => unfold sumZ sumN; rw [ratv_add1 _ _ hD, ih]
theorem entQ_tabQ (f : Nat → Nat → Rat) (r c i k : Nat) (hi : i < r) (hk : k < c) : entQ (tabQ f r c) i k = f i k := by
  unfold entQ tabQ
  simp [List.getElem?_map, List.getElem?_range hi, List.getElem?_range hk]
theorem length_tabQ (f : Nat → Nat → Rat) (r c : Nat) : (tabQ f r c).length = r := by simp [tabQ]
theorem row_tabQ (f : Nat → Nat → Rat) (r c : Nat) : ∀ qs ∈ tabQ f r c, qs.length = c := by
  intro qs hq
  obtain ⟨i, _, rfl⟩ := List.mem_map.1 hq
  simp
/-- rows of one length are the table of their entries -/
theorem tabQ_ent (qss : List (List Rat)) (c : Nat) (h : ∀ qs ∈ qss, qs.length = c) : tabQ (entQ qss) qss.length c = qss := by
  unfold tabQ
  refine List.ext_getElem (by simp) fun i h1 h2 => ?_
  rw [List.getElem_map, List.getElem_range]
  have hl := h _ (List.getElem_mem h2)
  refine List.ext_getElem (by simp [hl]) fun k h3 h4 => ?_
  rw [List.getElem_map, List.getElem_range]
  unfold entQ
  simp [List.getElem?_eq_getElem h2, List.getElem?_eq_getElem h4]

/-- sums and products of two matrices, as the program reckons -/
def mulQ (A B : List (List Rat)) (r n c : Nat) : List (List Rat) := tabQ (fun i k => sumN n fun j => entQ A i j * entQ B j k) r c
theorem mulZ_eq (zss zss' : List (List Int)) (d d' : Int) (hd : d ≠ 0) (hd' : d' ≠ 0) (r n c : Nat) : fracs (d * d') (tableZ (mulZ zss zss' n) r c) = mulQ (fracs d zss) (fracs d' zss') r n c := by
  rw [fracs_table]
  refine tabQ_congr fun i k _ _ => ?_
  unfold mulZ
  rw [ratv_sum (Int.mul_ne_zero hd hd')]
  refine sumN_congr fun j _ => ?_
  rw [entQ_fracs, entQ_fracs, ratv_mul]
def joinQ (op : Rat → Rat → Rat) (A B : List (List Rat)) (r c : Nat) : List (List Rat) := tabQ (fun i k => op (entQ A i k) (entQ B i k)) r c
theorem ratv_left (x d : Int) {e : Int} (he : e ≠ 0) : ratv (x * e) (d * e) = ratv x d := by
  rw [Int.mul_comm x e, Int.mul_comm d e]; exact Rat.divInt_mul_left he
theorem addZ_eq (zss zss' : List (List Int)) (d d' : Int) (hd : d ≠ 0) (hd' : d' ≠ 0) (r c : Nat) : fracs (d * d') (tableZ (fun i k => entry zss i k * d' + entry zss' i k * d) r c) = joinQ (· + ·) (fracs d zss) (fracs d' zss') r c := by
  rw [fracs_table]
  refine tabQ_congr fun i k _ _ => ?_
  rw [entQ_fracs, entQ_fracs, ratv_add1 _ _ (Int.mul_ne_zero hd hd'), ratv_left _ _ hd', Int.mul_comm d d', ratv_left _ _ hd]
def kronQ (A B : List (List Rat)) (r c r2 c2 : Nat) : List (List Rat) := tabQ (fun i k => entQ A (i / r2) (k / c2) * entQ B (i % r2) (k % c2)) (r * r2) (c * c2)
theorem kronZ_eq (zss zss' : List (List Int)) (d d' : Int) (r c r2 c2 : Nat) : fracs (d * d') (tableZ (fun i k => entry zss (i / r2) (k / c2) * entry zss' (i % r2) (k % c2)) (r * r2) (c * c2)) = kronQ (fracs d zss) (fracs d' zss') r c r2 c2 := by
  rw [fracs_table]
  refine tabQ_congr fun i k _ _ => ?_
  rw [entQ_fracs, entQ_fracs, ratv_mul]
def transQ (A : List (List Rat)) (r c : Nat) : List (List Rat) := tabQ (fun i k => entQ A k i) c r
theorem transZ_eq (zss : List (List Int)) (d : Int) (r c : Nat) : fracs d (tableZ (fun i k => entry zss k i) c r) = transQ (fracs d zss) r c := by
  rw [fracs_table]
  refine tabQ_congr fun i k _ _ => ?_
  rw [entQ_fracs]
end Go.Mt
/-
  A part of the proof.
-/
set_option linter.unusedSimpArgs false
set_option linter.unusedVariables false
namespace Go.Mt
/-- what is told so far, from what was told -/
def hist (F : List Rat → Rat) : Nat → List Rat
  | 0 => []
  | k + 1 => hist F k ++ [F (hist F k)]
def histN (F : List Rat → Rat) (k : Nat) : Rat := F (hist F k)
theorem sumN_scale (n : Nat) (c : Rat) (f : Nat → Rat) : sumN n (fun j => c * f j) = c * sumN n f := by
  induction n with
  | zero => simp [sumN]
  | succ n ih => simp only [sumN, ih]; grind
/-- Newton's sums, as the program has them -/
def cF (p : Nat → Rat) (L : List Rat) : Rat := if L.length = 0 then 1 else sumN L.length (fun i => (L[i]?).getD 0 * p (L.length - 1 - i)) / (-((L.length : Int) : Rat))
def cN (p : Nat → Rat) : Nat → Rat := histN (cF p)
end Go.Mt
/-
  A part of the proof.
-/
set_option linter.unusedSimpArgs false
set_option linter.unusedVariables false
namespace Go.Mt
theorem sumN_add (n : Nat) (f g : Nat → Rat) : sumN n (fun j => f j + g j) = sumN n f + sumN n g := by
  induction n with
  | zero => show (0 : Rat) = 0 + 0; rw [Rat.add_zero]
  | succ n ih => show sumN n (fun j => f j + g j) + (f n + g n) = (sumN n f + f n) + (sumN n g + g n); rw [ih]; grind
theorem sumN_nought (n : Nat) (f : Nat → Rat) (h : ∀ j, j < n → f j = 0) : sumN n f = 0 := by
  induction n with
  | zero => rfl
  | succ n ih => show sumN n f + f n = 0; rw [ih (fun j hj => h j (by omega)), h n (by omega), Rat.add_zero]
theorem sumN_scaler (n : Nat) (c : Rat) (f : Nat → Rat) : sumN n (fun j => f j * c) = sumN n f * c := by
  rw [Rat.mul_comm (sumN n f) c, ← sumN_scale]
  exact sumN_congr fun j _ => Rat.mul_comm _ _
theorem sumN_swap (n m : Nat) (f : Nat → Nat → Rat) : sumN n (fun i => sumN m fun j => f i j) = sumN m fun j => sumN n fun i => f i j := by
  induction n with
  | zero => exact (sumN_nought m _ fun _ _ => rfl).symm
  | succ n ih =>
    show sumN n (fun i => sumN m fun j => f i j) + sumN m (fun j => f n j) = _
    rw [ih, ← sumN_add]
    rfl
theorem sumN_one (n k : Nat) (f : Nat → Rat) (hk : k < n) : sumN n (fun j => f j * if j = k then 1 else 0) = f k := by
  induction n with
  | zero => omega
  | succ n ih =>
    show sumN n (fun j => f j * if j = k then 1 else 0) + (f n * if n = k then 1 else 0) = f k
    by_cases h : n = k
    · rw [if_pos h, sumN_nought n _ (fun j hj => by rw [if_neg (by omega), Rat.mul_zero]), h, Rat.zero_add, Rat.mul_one]
    · rw [if_neg h, ih (by omega), Rat.mul_zero, Rat.add_zero]
end Go.Mt
