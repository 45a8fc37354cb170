/-
  Plain law: what made makes is the normal form of its fractions.
-/
import Derived.Test.YtbhenelehhiakaaGreatSum24
import Derived.Test.YtbhenelehhiakaaGreatSum20
set_option linter.unusedVariables false
set_option linter.unusedSimpArgs false
namespace Go.Proofs.YtbhenelehhiakaaGreat

theorem dvd_mul_gcdI {D c x y : Int} (hx : D ∣ c * x) (hy : D ∣ c * y) : D ∣ c * gcdI x y := by
  have h := Int.dvd_coe_gcd hx hy
  rw [Int.gcd_mul_left] at h
  unfold gcdI
  rcases Int.natAbs_eq c with hc | hc
  · rw [hc, ← Int.natCast_mul]; exact h
  · rw [hc, Int.neg_mul, ← Int.natCast_mul]; exact Int.dvd_neg.2 h
theorem dvd_mul_gcds (D c : Int) (l : List Int) (h : ∀ z ∈ l, D ∣ c * z) : D ∣ c * gcds l := by
  have key : ∀ (l : List Int) (x : Int), D ∣ c * x → (∀ z ∈ l, D ∣ c * z) → D ∣ c * l.foldl gcdI x := by
    intro l
    induction l with
    | nil => intro x hx _; exact hx
    | cons y ys ih =>
      intro x hx hl
      refine ih _ ?_ (fun z hz => hl z (List.mem_cons_of_mem _ hz))
      exact dvd_mul_gcdI hx (hl y (List.mem_cons_self ..))
  exact key l 0 (by simp) h

/-- the made denominator, as a positive number -/
theorem made_split (D : Int) (hD : D ≠ 0) (L : List Int) : ∃ g e : Int, g = madeG D L ∧ g ≠ 0 ∧ 0 < e ∧ D = g * e ∧ (∀ z ∈ L, g ∣ z) ∧ (∀ c : Int, (∀ z ∈ L, D ∣ c * z) → e ∣ c) := by
  have hG0 : gcdI (gcds L) D ≠ 0 := by
    unfold gcdI; intro h
    have : Int.gcd (gcds L) D = 0 := by omega
    exact hD (Int.gcd_eq_zero_iff.1 this).2
  have hGp : 0 < gcdI (gcds L) D := by unfold gcdI at *; omega
  have hGd : gcdI (gcds L) D ∣ D := Int.gcd_dvd_right ..
  have hGz : ∀ z ∈ L, gcdI (gcds L) D ∣ z := fun z hz => Int.dvd_trans (Int.gcd_dvd_left ..) (gcds_dvd L z hz)
  obtain ⟨k, hk⟩ := hGd
  have hmain : ∀ c : Int, (∀ z ∈ L, D ∣ c * z) → D ∣ c * gcdI (gcds L) D := fun c hc => dvd_mul_gcdI (dvd_mul_gcds D c L hc) (Int.dvd_mul_left ..)
  generalize hGe : gcdI (gcds L) D = G at *
  have hkc : ∀ c : Int, D ∣ c * G → k ∣ c := by
    rintro c ⟨t, ht⟩
    refine ⟨t, ?_⟩
    have : G * c = G * (k * t) := by rw [Int.mul_comm G c, ht, hk, Int.mul_assoc]
    exact Int.eq_of_mul_eq_mul_left hG0 this
  by_cases hs : D < 0
  · refine ⟨-G, -k, ?_, by omega, ?_, by rw [Int.neg_mul_neg]; exact hk, fun z hz => Int.neg_dvd.2 (hGz z hz), fun c hc => Int.neg_dvd.2 (hkc c (hmain c hc))⟩
    · unfold madeG; rw [if_pos hs, hGe]
    · rw [hk] at hs
      have : ¬ 0 ≤ k := fun h => by have := Int.mul_le_mul_of_nonneg_left h (Int.le_of_lt hGp); simp at this; omega
      omega
  · refine ⟨G, k, ?_, hG0, ?_, hk, hGz, fun c hc => hkc c (hmain c hc)⟩
    · unfold madeG; rw [if_neg hs, hGe]
    · have h0 : 0 < G * k := by omega
      have : ¬ k ≤ 0 := fun h => by have := Int.mul_le_mul_of_nonneg_left h (Int.le_of_lt hGp); simp at this; omega
      omega

theorem ratv_scale {g : Int} (hg : g ≠ 0) (k e : Int) : ratv (g * k) (g * e) = ratv k e := Rat.divInt_mul_left hg

theorem made_com (D : Int) (hD : D ≠ 0) (L : List Int) : ((comDen (L.map fun z => ratv z D) : Nat) : Int) = D / madeG D L ∧ ∀ z ∈ L, comNum (comDen (L.map fun z => ratv z D)) (ratv z D) = z / madeG D L := by
  obtain ⟨g, e, hg, hg0, he, hDe, hz, hc⟩ := made_split D hD L
  rw [← hg]
  have hdiv : D / g = e := by rw [hDe, Int.mul_ediv_cancel_left _ hg0]
  have hq : ∀ z ∈ L, ∃ k, z = g * k ∧ ratv z D = ratv k e := fun z hm => by
    obtain ⟨k, hk⟩ := hz z hm
    exact ⟨k, hk, by rw [hk, hDe, ratv_scale hg0]⟩
  have hcom : ((comDen (L.map fun z => ratv z D) : Nat) : Int) = e := by
    have h1 : comDen (L.map fun z => ratv z D) ∣ e.toNat := by
      refine comDen_dvd _ _ fun q hm => ?_
      obtain ⟨z, hz1, rfl⟩ := List.mem_map.1 hm
      obtain ⟨k, _, hk⟩ := hq z hz1
      rw [hk]
      have h2 := ratv_den (z := k) (d := e) he
      have h3 : (((ratv k e).den : Nat) : Int) ∣ e := by
        rw [h2]
        obtain ⟨t, ht⟩ : ((Int.gcd k e : Nat) : Int) ∣ e := Int.gcd_dvd_right ..
        have ht0 : ((Int.gcd k e : Nat) : Int) ≠ 0 := fun h => by rw [h] at ht; omega
        exact ⟨(Int.gcd k e : Nat), by
          have : e / ((Int.gcd k e : Nat) : Int) = t := by
            conv => lhs; lhs; rw [ht]
            exact Int.mul_ediv_cancel_left _ ht0
          rw [this, Int.mul_comm]; exact ht⟩
      have : (((ratv k e).den : Nat) : Int) ∣ ((e.toNat : Nat) : Int) := by rw [Int.toNat_of_nonneg (by omega)]; exact h3
      exact Int.natCast_dvd_natCast.1 this
    have h2 : e ∣ ((comDen (L.map fun z => ratv z D) : Nat) : Int) := by
      refine hc _ fun z hm => ?_
      obtain ⟨k, hk, hk2⟩ := hq z hm
      have hd : (ratv z D).den ∣ comDen (L.map fun z => ratv z D) := den_dvd_comDen _ _ (List.mem_map.2 ⟨z, hm, rfl⟩)
      have hmul := comNum_eq _ _ hd
      generalize comDen (L.map fun z => ratv z D) = C at *
      refine ⟨comNum C (ratv z D), ?_⟩
      have hDq : ((D : Int) : Rat) ≠ 0 := fun e => hD (Rat.intCast_inj.1 (show ((D : Int) : Rat) = ((0 : Int) : Rat) from e))
      have hv : ratv z D = (z : Rat) * (D : Rat)⁻¹ := by unfold ratv; rw [Rat.divInt_eq_div, Rat.div_def]
      have : (((C : Int) * z : Int) : Rat) = ((D * comNum C (ratv z D) : Int) : Rat) := by
        rw [Rat.intCast_mul, Rat.intCast_mul, ← hmul, hv]
        have h1 : (D : Rat) * (D : Rat)⁻¹ = 1 := Rat.mul_inv_cancel _ hDq
        generalize ((D : Int) : Rat) = d at *
        generalize d⁻¹ = di at *
        grind
      exact Rat.intCast_inj.1 this
    have h3 : ((comDen (L.map fun z => ratv z D) : Nat) : Int) ∣ e := by
      have := Int.natCast_dvd_natCast.2 h1
      rwa [Int.toNat_of_nonneg (by omega)] at this
    have hp := comDen_pos (L.map fun z => ratv z D)
    exact Int.dvd_antisymm (by omega) (by omega) h3 h2
  refine ⟨by rw [hcom, hdiv], fun z hm => ?_⟩
  have hd : (ratv z D).den ∣ comDen (L.map fun z => ratv z D) := den_dvd_comDen _ _ (List.mem_map.2 ⟨z, hm, rfl⟩)
  have hmul := comNum_eq _ _ hd
  generalize comDen (L.map fun z => ratv z D) = C at *
  obtain ⟨k, hk, hk2⟩ := hq z hm
  have hzk : z / g = k := by rw [hk, Int.mul_ediv_cancel_left _ hg0]
  rw [hzk]
  rw [hcom] at hmul
  have heq : ((e : Int) : Rat) ≠ 0 := fun h => by have := Rat.intCast_inj.1 (show ((e : Int) : Rat) = ((0 : Int) : Rat) from h); omega
  have hv : ratv k e = (k : Rat) * (e : Rat)⁻¹ := by unfold ratv; rw [Rat.divInt_eq_div, Rat.div_def]
  have : ((comNum C (ratv z D) : Int) : Rat) = ((k : Int) : Rat) := by
    rw [← hmul, hk2, hv]
    have h1 : (e : Rat)⁻¹ * (e : Rat) = 1 := Rat.inv_mul_cancel _ heq
    rw [Rat.mul_assoc, h1, Rat.mul_one]
  exact Rat.intCast_inj.1 this

/-- what is made is the normal form of its fractions -/
theorem made_normal (D : Int) (hD : D ≠ 0) (B : List (List Int)) (hev : ∀ zs ∈ B, zs.length = colsOf B) :
    ((comDen (B.map fun zs => zs.map fun z => ratv z D).flatten : Nat) : Int) = madeDen D B ∧ ((B.map fun zs => zs.map fun z => ratv z D).map fun qs => qs.map (comNum (comDen (B.map fun zs => zs.map fun z => ratv z D).flatten))) = madeRows D B := by
  have hfl : (B.map fun zs => zs.map fun z => ratv z D).flatten = B.flatten.map fun z => ratv z D := (List.map_flatten ..).symm
  rw [hfl]
  obtain ⟨h1, h2⟩ := made_com D hD B.flatten
  refine ⟨?_, ?_⟩
  · unfold madeDen
    split
    · rename_i h0
      have : B.flatten = [] := by
        refine List.flatten_eq_nil_iff.2 fun zs hm => ?_
        have := hev zs hm
        rw [h0] at this
        exact List.length_eq_zero_iff.1 this
      rw [this]; rfl
    · exact h1
  · unfold madeRows
    rw [List.map_map]
    refine List.map_congr_left fun zs hm => ?_
    simp only [Function.comp, List.map_map]
    exact List.map_congr_left fun z hz => h2 z (List.mem_flatten.2 ⟨zs, hm, hz⟩)
end Go.Proofs.YtbhenelehhiakaaGreat
