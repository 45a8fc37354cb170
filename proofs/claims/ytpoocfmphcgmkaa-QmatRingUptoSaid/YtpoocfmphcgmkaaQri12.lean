/-
  Knuth's division: the plain arithmetic of one digit. No program.
-/
import Derived.Test.YtpoocfmphcgmkaaQri1
set_option linter.unusedVariables false
set_option linter.unusedSimpArgs false
set_option linter.unusedSimpArgs false
set_option linter.unusedVariables false
namespace Go.Mt

/-- the top limbs of the two numbers -/
structure Tops (b P U V top next t u2 : Nat) : Prop where
  hb : 0 < b
  hP : 0 < P
  htop : 0 < top
  hnext : next < b
  hu2 : u2 < b
  hV : ∃ vl, V = (top * b + next) * P + vl ∧ vl < P
  hU : ∃ ul, U = (t * b + u2) * P + ul ∧ ul < P
  hlt : U < V * b

theorem Tops.vpos {b P U V top next t u2 : Nat} (h : Tops b P U V top next t u2) : b * P ≤ V := by
  obtain ⟨vl, hv, _⟩ := h.hV
  have h1 : 1 * b ≤ top * b := Nat.mul_le_mul_right _ h.htop
  have h2 : b * P ≤ (top * b + next) * P := Nat.mul_le_mul_right _ (by omega)
  omega

theorem Tops.v0 {b P U V top next t u2 : Nat} (h : Tops b P U V top next t u2) : 0 < V := Nat.lt_of_lt_of_le (Nat.mul_pos h.hb h.hP) h.vpos

theorem Tops.tle {b P U V top next t u2 : Nat} (h : Tops b P U V top next t u2) : t < top * b + b := by
  obtain ⟨vl, hv, hvl⟩ := h.hV
  obtain ⟨ul, hu, hul⟩ := h.hU
  have h1 : V * b < (top * b + b) * b * P := by
    have h2 : V < (top * b + b) * P := by
      have h3 : (top * b + next + 1) * P ≤ (top * b + b) * P := Nat.mul_le_mul_right _ (by have := h.hnext; omega)
      rw [Nat.add_mul, Nat.one_mul] at h3
      omega
    have h4 := Nat.mul_lt_mul_of_pos_right h2 h.hb
    rwa [Nat.mul_right_comm] at h4
  have h5 : t * b * P ≤ U := by
    have : t * b * P ≤ (t * b + u2) * P := Nat.mul_le_mul_right _ (by omega)
    omega
  have h6 : t * b * P < (top * b + b) * b * P := by have := h.hlt; omega
  have h7 := Nat.lt_of_mul_lt_mul_right h6
  exact Nat.lt_of_mul_lt_mul_right h7

theorem Tops.start {b P U V top next t u2 : Nat} (h : Tops b P U V top next t u2) : U / V ≤ t / top := by
  obtain ⟨vl, hv, hvl⟩ := h.hV
  obtain ⟨ul, hu, hul⟩ := h.hU
  have h1 : t < (t / top + 1) * top := by
    have := Nat.lt_mul_div_succ t h.htop
    rwa [Nat.mul_comm] at this
  have h2 : (t + 1) * b * P ≤ (t / top + 1) * V := by
    have h3 : top * b * P ≤ V := by
      have : top * b * P ≤ (top * b + next) * P := Nat.mul_le_mul_right _ (by omega)
      omega
    have h4 : (t / top + 1) * (top * b * P) ≤ (t / top + 1) * V := Nat.mul_le_mul_left _ h3
    have h5 : (t + 1) * (b * P) ≤ (t / top + 1) * top * (b * P) := Nat.mul_le_mul_right _ h1
    rw [← Nat.mul_assoc, Nat.mul_assoc _ top, ← Nat.mul_assoc] at h5
    rw [Nat.mul_assoc _ (top : Nat)] at h5
    have e : (t / top + 1) * (top * (b * P)) = (t / top + 1) * (top * b * P) := by rw [Nat.mul_assoc top]
    omega
  have h6 : U < (t + 1) * b * P := by
    have h7 : (t * b + u2 + 1) * P ≤ (t * b + b) * P := Nat.mul_le_mul_right _ (by have := h.hu2; omega)
    rw [Nat.add_mul, Nat.one_mul] at h7
    have e : (t + 1) * b = t * b + b := by rw [Nat.add_mul, Nat.one_mul]
    rw [e]
    omega
  have h8 : U / V < t / top + 1 := by
    rw [Nat.div_lt_iff_lt_mul h.v0]
    omega
  omega

theorem Tops.dec {b P U V top next t u2 q r : Nat} (h : Tops b P U V top next t u2) (hq : q * top + r = t) (hc : b ≤ q ∨ r * b + u2 < q * next) : U / V < q := by
  obtain ⟨vl, hv, hvl⟩ := h.hV
  obtain ⟨ul, hu, hul⟩ := h.hU
  rw [Nat.div_lt_iff_lt_mul h.v0]
  rcases hc with hc | hc
  · have h1 : b * V ≤ q * V := Nat.mul_le_mul_right _ hc
    have := h.hlt
    rw [Nat.mul_comm] at h1
    omega
  · have h1 : (t * b + u2 + 1) * P ≤ q * (top * b + next) * P := by
      apply Nat.mul_le_mul_right
      rw [Nat.mul_add, ← hq, Nat.add_mul, ← Nat.mul_assoc]
      omega
    have h2 : q * (top * b + next) * P ≤ q * V := by
      rw [Nat.mul_assoc]
      exact Nat.mul_le_mul_left _ (by omega)
    rw [Nat.add_mul, Nat.one_mul] at h1
    omega

theorem Tops.fin {b P U V top next t u2 q r : Nat} (h : Tops b P U V top next t u2) (hq : q * top + r = t) (hqb : q < b) (hc : q * next ≤ r * b + u2) : q * V < U + V := by
  obtain ⟨vl, hv, hvl⟩ := h.hV
  obtain ⟨ul, hu, hul⟩ := h.hU
  have h1 : q * (top * b + next) * P ≤ (t * b + u2) * P := by
    apply Nat.mul_le_mul_right
    rw [Nat.mul_add, ← hq, Nat.add_mul, ← Nat.mul_assoc]
    omega
  have h2 : q * vl < b * P := Nat.mul_lt_mul_of_lt_of_le hqb (Nat.le_of_lt hvl) h.hP
  have h3 := h.vpos
  have h4 : q * V = q * (top * b + next) * P + q * vl := by rw [hv, Nat.mul_add, Nat.mul_assoc]
  omega

theorem Tops.far {b P U V top next t u2 q r : Nat} (h : Tops b P U V top next t u2) (hq : q * top + r = t) (hr : b ≤ r) : q < b ∧ q * next ≤ r * b + u2 := by
  have h1 := h.tle
  have h2 : q < b := by
    have h3 : q * top < b * top := by rw [Nat.mul_comm b]; omega
    exact Nat.lt_of_mul_lt_mul_right h3
  refine ⟨h2, ?_⟩
  have h4 : q * next ≤ r * b := Nat.mul_le_mul (by omega) (by have := h.hnext; omega)
  omega

theorem pow_add_mul (j i x : Nat) : 4294967296 ^ j * (4294967296 ^ i * x) = 4294967296 ^ (j + i) * x := by rw [Nat.pow_add, Nat.mul_assoc]

theorem mulsub_round {u v : List Nat} {A q j i carry borrow vi ui limb br : Nat} (hj : j + i < u.length) (h : val u + 4294967296 ^ j * (q * val (v.take i)) = A + 4294967296 ^ (j + i) * (carry + borrow))
    (hv : v[i]?.getD 0 = vi) (hu : u[j + i]?.getD 0 = ui) (hl : limb + (q * vi + carry) % 4294967296 + borrow = ui + 4294967296 * br) :
    val (u.set (j + i) limb) + 4294967296 ^ j * (q * val (v.take (i + 1))) = A + 4294967296 ^ (j + (i + 1)) * ((q * vi + carry) / 4294967296 + br) := by
  have h1 := val_set hj limb
  rw [hu] at h1
  have h2 : q * vi + carry = (q * vi + carry) % 4294967296 + 4294967296 * ((q * vi + carry) / 4294967296) := by omega
  generalize (q * vi + carry) % 4294967296 = pl at *
  generalize (q * vi + carry) / 4294967296 = ph at *
  rw [val_take_succ', hv, Nat.mul_add, Nat.mul_add]
  have e1 : 4294967296 ^ j * (q * (4294967296 ^ i * vi)) = 4294967296 ^ (j + i) * (q * vi) := by rw [Nat.mul_left_comm q, pow_add_mul]
  have e2 : 4294967296 ^ (j + (i + 1)) * (ph + br) = 4294967296 ^ (j + i) * (4294967296 * ph + 4294967296 * br) := by
    rw [← Nat.add_assoc, Nat.pow_succ, Nat.mul_assoc, Nat.mul_add 4294967296]
  rw [e1, e2]
  have e3 : 4294967296 ^ (j + i) * limb + 4294967296 ^ (j + i) * (q * vi) + 4294967296 ^ (j + i) * (carry + borrow) = 4294967296 ^ (j + i) * ui + 4294967296 ^ (j + i) * (4294967296 * ph + 4294967296 * br) := by
    rw [← Nat.mul_add, ← Nat.mul_add, ← Nat.mul_add]
    congr 1
    omega
  omega

theorem mulsub_end {u : List Nat} {A W j n carry borrow ui limb br : Nat} (hj : j + n < u.length) (h : val u + W = A + 4294967296 ^ (j + n) * (carry + borrow))
    (hu : u[j + n]?.getD 0 = ui) (hl : limb + carry + borrow = ui + 4294967296 * br) :
    val (u.set (j + n) limb) + W = A + 4294967296 ^ (j + n + 1) * br := by
  have h1 := val_set hj limb
  rw [hu] at h1
  rw [Nat.pow_succ, Nat.mul_assoc]
  have e3 : 4294967296 ^ (j + n) * limb + 4294967296 ^ (j + n) * (carry + borrow) = 4294967296 ^ (j + n) * ui + 4294967296 ^ (j + n) * (4294967296 * br) := by
    rw [← Nat.mul_add, ← Nat.mul_add]
    congr 1
    omega
  omega

theorem back_round {u v : List Nat} {A j i c vi ui : Nat} (hj : j + i < u.length) (h : val u + 4294967296 ^ (j + i) * c = A + 4294967296 ^ j * val (v.take i))
    (hv : v[i]?.getD 0 = vi) (hu : u[j + i]?.getD 0 = ui) :
    val (u.set (j + i) ((ui + vi + c) % 4294967296)) + 4294967296 ^ (j + (i + 1)) * ((ui + vi + c) / 4294967296) = A + 4294967296 ^ j * val (v.take (i + 1)) := by
  have h1 := val_set hj ((ui + vi + c) % 4294967296)
  rw [hu] at h1
  have h2 : ui + vi + c = (ui + vi + c) % 4294967296 + 4294967296 * ((ui + vi + c) / 4294967296) := by omega
  generalize (ui + vi + c) % 4294967296 = pl at *
  generalize (ui + vi + c) / 4294967296 = ph at *
  rw [val_take_succ', hv, Nat.mul_add, pow_add_mul, ← Nat.add_assoc, Nat.pow_succ, Nat.mul_assoc]
  have e3 : 4294967296 ^ (j + i) * pl + 4294967296 ^ (j + i) * (4294967296 * ph) = 4294967296 ^ (j + i) * ui + 4294967296 ^ (j + i) * vi + 4294967296 ^ (j + i) * c := by
    rw [← Nat.mul_add, ← Nat.mul_add, ← Nat.mul_add]
    congr 1
    omega
  omega

theorem back_end {u : List Nat} {A j n c ui : Nat} (hj : j + n < u.length) (h : val u + 4294967296 ^ (j + n) * c = A) (hu : u[j + n]?.getD 0 = ui) :
    val (u.set (j + n) ((ui + c) % 4294967296)) + 4294967296 ^ (j + n + 1) * ((ui + c) / 4294967296) = A := by
  have h1 := val_set hj ((ui + c) % 4294967296)
  rw [hu] at h1
  have h2 : ui + c = (ui + c) % 4294967296 + 4294967296 * ((ui + c) / 4294967296) := by omega
  generalize (ui + c) % 4294967296 = pl at *
  generalize (ui + c) / 4294967296 = ph at *
  rw [Nat.pow_succ, Nat.mul_assoc]
  have e3 : 4294967296 ^ (j + n) * pl + 4294967296 ^ (j + n) * (4294967296 * ph) = 4294967296 ^ (j + n) * ui + 4294967296 ^ (j + n) * c := by
    rw [← Nat.mul_add, ← Nat.mul_add]
    congr 1
    omega
  omega

theorem digit_lt {A V q p : Nat} (hp : 0 < p) (h : A / p / V = q) (hV : 0 < V) (X : Nat) (hX : X + p * (q * V) = A) : X < V * p := by
  have h1 : A / p < (q + 1) * V := by rw [← h]; have := Nat.lt_mul_div_succ (A / p) hV; rwa [Nat.mul_comm] at this
  have h2 : A < p * ((q + 1) * V) := by
    have := Nat.lt_mul_div_succ A hp
    have h3 : p * (A / p + 1) ≤ p * ((q + 1) * V) := Nat.mul_le_mul_left _ h1
    omega
  rw [Nat.add_mul, Nat.one_mul, Nat.mul_add, Nat.mul_comm p V] at h2
  omega

/-- the digit was right -/
theorem fin_no {A V q p X : Nat} (hp : 0 < p) (hV : 0 < V) (hg : A / p / V ≤ q) (h : X + p * (q * V) = A) : X < V * p := by
  have h1 : q * V ≤ A / p := by
    rw [Nat.le_div_iff_mul_le hp, Nat.mul_comm]; omega
  have h2 : q ≤ A / p / V := by rw [Nat.le_div_iff_mul_le hV]; exact h1
  exact digit_lt hp (by omega) hV X h

/-- the digit was one too many -/
theorem fin_yes {A V q p X Y T ov : Nat} (hp : 0 < p) (hV : 0 < V) (hfin : q * V < A / p + V) (h : X + p * (q * V) = A + T) (hX : X < T) (hY : Y < T) (hb : Y + T * ov = X + p * V) (ho : ov ≤ 1) :
    0 < q ∧ Y + p * ((q - 1) * V) = A ∧ Y < V * p := by
  have h1 : A / p < q * V := by
    rw [Nat.div_lt_iff_lt_mul hp, Nat.mul_comm]; omega
  have hq : 0 < q := by
    cases Nat.eq_zero_or_pos q with
    | inl e => rw [e, Nat.zero_mul] at h1; exact absurd h1 (Nat.not_lt_zero _)
    | inr h => exact h
  obtain ⟨r, rfl⟩ : ∃ r, q = r + 1 := ⟨q - 1, by omega⟩
  rw [Nat.add_sub_cancel]
  rw [Nat.add_mul, Nat.one_mul] at hfin h1
  rw [Nat.add_mul, Nat.one_mul, Nat.mul_add] at h
  have h2 : p * (r * V) ≤ A := by
    have h3 : p * (r * V) ≤ p * (A / p) := Nat.mul_le_mul_left _ (by omega)
    have := Nat.mul_div_le A p
    omega
  have h4 : ov = 1 := by
    cases Nat.eq_zero_or_pos ov with
    | inl e => rw [e, Nat.mul_zero] at hb; omega
    | inr h => omega
  rw [h4, Nat.mul_one] at hb
  have h5 : Y + p * (r * V) = A := by omega
  refine ⟨by omega, h5, digit_lt hp ?_ hV Y h5⟩
  have h6 : r ≤ A / p / V := by rw [Nat.le_div_iff_mul_le hV]; omega
  have h7 : A / p / V < r + 1 := by rw [Nat.div_lt_iff_lt_mul hV, Nat.add_mul, Nat.one_mul]; omega
  omega

theorem val_high {u : List Nat} (hs : Small u) {k : Nat} (h : ∀ t, k ≤ t → u[t]?.getD 0 = 0) : val u < 4294967296 ^ k := by
  have h1 := val_take_drop u k
  have h2 : val (u.drop k) = 0 := val_eq_zero fun x hx => by
    obtain ⟨i, hi, rfl⟩ := List.getElem_of_mem hx
    rw [List.length_drop] at hi
    have := h (k + i) (by omega)
    rw [List.getElem?_eq_getElem (by omega)] at this
    rw [List.getElem_drop]
    exact this
  rw [h2, Nat.mul_zero, Nat.add_zero] at h1
  rw [h1]
  refine Nat.lt_of_lt_of_le (val_lt (hs.take k)) (Nat.pow_le_pow_right (by decide) ?_)
  rw [List.length_take]; omega

theorem high_of_val {u : List Nat} {k : Nat} (h : val u < 4294967296 ^ k) : ∀ t, k ≤ t → u[t]?.getD 0 = 0 := by
  intro t ht
  by_cases hl : t < u.length
  · have h1 := val_split_at hl
    cases Nat.eq_zero_or_pos (u[t]?.getD 0) with
    | inl h => exact h
    | inr hp =>
      have h2 : 4294967296 ^ t * 1 ≤ 4294967296 ^ t * (u[t]?.getD 0 + 4294967296 * val (u.drop (t + 1))) := Nat.mul_le_mul_left _ (by omega)
      have h3 : 4294967296 ^ k ≤ 4294967296 ^ t := Nat.pow_le_pow_right (by decide) ht
      omega
  · rw [List.getElem?_eq_none (by omega)]; rfl

theorem val_take_high {u : List Nat} {k : Nat} (h : val u < 4294967296 ^ k) : val (u.take k) = val u := by
  have h1 := val_take_drop u k
  have h2 : val (u.drop k) = 0 := val_eq_zero fun x hx => by
    obtain ⟨i, hi, rfl⟩ := List.getElem_of_mem hx
    rw [List.length_drop] at hi
    have := high_of_val h (k + i) (by omega)
    rw [List.getElem?_eq_getElem (by omega)] at this
    rw [List.getElem_drop]
    exact this
  rw [h2, Nat.mul_zero, Nat.add_zero] at h1
  exact h1.symm

/-- the three top limbs of what is left, and the two of the divisor -/
theorem tops_of {u v : List Nat} (hu : Small u) (hv : Small v) {j n top next t1 t0 u2 : Nat} (hn : 2 ≤ n) (hvl : v.length = n) (hlt : val u < val v * 4294967296 ^ (j + 1))
    (h1 : v[n - 1]?.getD 0 = top) (h2 : v[n - 2]?.getD 0 = next) (h3 : u[j + n]?.getD 0 = t1) (h4 : u[j + n - 1]?.getD 0 = t0) (h5 : u[j + n - 2]?.getD 0 = u2) (htop : 0 < top) :
    Tops 4294967296 (4294967296 ^ (n - 2)) (val u / 4294967296 ^ j) (val v) top next (t1 * 4294967296 + t0) u2 := by
  have hvt : val v = val (v.take (n - 2)) + 4294967296 ^ (n - 2) * (next + 4294967296 * top) := by
    rw [val_split_at (l := v) (j := n - 2) (by omega), h2, show n - 2 + 1 = n - 1 from by omega, val_drop (by omega), h1, List.drop_of_length_le (by omega)]
    have e : val ([] : List Nat) = 0 := rfl
    rw [e, Nat.mul_zero, Nat.add_zero]
  have hhigh : val (u.drop (j + n + 1)) = 0 := by
    rw [val_drop_div hu, Nat.div_eq_of_lt]
    have h6 := val_lt hv
    rw [hvl] at h6
    have h7 : val v * 4294967296 ^ (j + 1) < 4294967296 ^ n * 4294967296 ^ (j + 1) := Nat.mul_lt_mul_of_pos_right h6 (Nat.pow_pos (by decide))
    rw [← Nat.pow_add] at h7
    rw [show j + n + 1 = n + (j + 1) from by omega]
    omega
  have hul : val (u.drop (j + n - 2)) = u2 + 4294967296 * (t0 + 4294967296 * t1) := by
    rw [val_drop' u (j + n - 2), h5, show j + n - 2 + 1 = j + n - 1 from by omega, val_drop' u (j + n - 1), h4, show j + n - 1 + 1 = j + n from by omega, val_drop' u (j + n), h3, hhigh, Nat.mul_zero, Nat.add_zero]
  have hU : val u / 4294967296 ^ j = val (u.drop j) := (val_drop_div hu j).symm
  have hdd : val (u.drop j) = val ((u.drop j).take (n - 2)) + 4294967296 ^ ((u.drop j).take (n - 2)).length * val ((u.drop j).drop (n - 2)) := val_take_drop _ _
  refine ⟨by decide, Nat.pow_pos (by decide), htop, ?_, ?_, ⟨val (v.take (n - 2)), ?_, ?_⟩, ?_, ?_⟩
  · rw [← h2]; exact hv.get _
  · rw [← h5]; exact hu.get _
  · rw [hvt, Nat.add_comm, Nat.mul_comm (4294967296 ^ (n - 2)), Nat.add_comm next, Nat.mul_comm 4294967296 top]
  · have := val_lt (hv.take (n - 2))
    rwa [List.length_take, Nat.min_eq_left (by omega)] at this
  · rw [hU, ← List.take_append_drop (n - 2) (u.drop j)]
    rw [List.drop_drop, show j + (n - 2) = j + n - 2 from by omega]
    by_cases hlen : n - 2 ≤ (u.drop j).length
    · refine ⟨val ((u.drop j).take (n - 2)), ?_, ?_⟩
      · rw [val_append, hul, List.length_take, Nat.min_eq_left hlen]
        rw [Nat.add_comm (val _), Nat.mul_comm (4294967296 ^ (n - 2))]
        congr 2
        omega
      · have := val_lt ((hu.drop j).take (n - 2))
        rwa [List.length_take, Nat.min_eq_left hlen] at this
    · have e0 : val (u.drop (j + n - 2)) = 0 := by
        rw [List.drop_of_length_le (by rw [List.length_drop] at hlen; omega)]; rfl
      rw [hul] at e0
      have e1 : t1 = 0 := by omega
      have e2 : t0 = 0 := by omega
      have e3 : u2 = 0 := by omega
      subst e1 e2 e3
      refine ⟨val ((u.drop j).take (n - 2)), ?_, ?_⟩
      · rw [val_append, hul]; simp
      · refine Nat.lt_of_lt_of_le (val_lt ((hu.drop j).take (n - 2))) (Nat.pow_le_pow_right (by decide) ?_)
        rw [List.length_take]; omega
  · rw [Nat.div_lt_iff_lt_mul (Nat.pow_pos (by decide)), Nat.mul_assoc, ← Nat.pow_succ']
    exact hlt

theorem blen_val {l : List Nat} (hs : Small l) (hl : 0 < l.length) (h : l[l.length - 1]?.getD 0 ≠ 0) : blen (val l) = 32 * (l.length - 1) + blen (l[l.length - 1]?.getD 0) := by
  have h1 := val_split_at (l := l) (j := l.length - 1) (by omega)
  rw [List.drop_of_length_le (by omega)] at h1
  have h2 := val_lt (hs.take (l.length - 1))
  rw [List.length_take, Nat.min_eq_left (by omega)] at h2
  generalize l[l.length - 1]?.getD 0 = t at *
  have e : val ([] : List Nat) = 0 := rfl
  rw [e, Nat.mul_zero, Nat.add_zero] at h1
  have e2 : (4294967296 : Nat) ^ (l.length - 1) = 2 ^ (32 * (l.length - 1)) := by rw [Nat.pow_mul]
  rw [e2] at h1 h2
  have h3 : 2 ^ (32 * (l.length - 1)) ≤ val l := by
    rw [h1]
    exact Nat.le_trans (Nat.le_mul_of_pos_right _ (by omega)) (Nat.le_add_left _ _)
  rw [blen_shift (32 * (l.length - 1)) h3, h1, Nat.add_mul_div_left _ _ (Nat.pow_pos (by decide)), Nat.div_eq_of_lt h2, Nat.zero_add]
theorem limbs_top {x j : Nat} (h : nl x = j + 1) : (limbs x)[j]?.getD 0 ≠ 0 ∧ blen x = 32 * j + blen ((limbs x)[j]?.getD 0) := by
  have hs := small_limbs x
  have hlen : (limbs x).length = j + 1 := h
  have hne : (limbs x)[j]?.getD 0 ≠ 0 := by
    intro e0
    have hsp := val_split_at (l := limbs x) (j := j) (by omega)
    have h4 := val_lt (hs.take j)
    rw [List.length_take, Nat.min_eq_left (by omega)] at h4
    rw [e0, List.drop_of_length_le (by omega), val_limbs] at hsp
    have e1 : val ([] : List Nat) = 0 := rfl
    rw [e1] at hsp
    have h5 := pow_nl_le (n := x) (by
      cases Nat.eq_zero_or_pos x with
      | inl h => subst h; simp [limbs_zero] at hlen
      | inr h => exact h)
    rw [h, Nat.add_sub_cancel] at h5
    omega
  have hbl := blen_val (l := limbs x) hs (by omega) (by rw [hlen]; exact hne)
  rw [val_limbs, hlen, Nat.add_sub_cancel] at hbl
  exact ⟨hne, hbl⟩
theorem norm_shift {y j : Nat} (h : nl y = j + 1) : y * 2 ^ (32 - blen ((limbs y)[j]?.getD 0)) < 4294967296 ^ (j + 1) := by
  obtain ⟨h1, h2⟩ := limbs_top h
  have h3 := lt_pow_blen y
  have h4 : blen ((limbs y)[j]?.getD 0) ≤ 32 := blen_le_of_lt (by have e : (2 : Nat) ^ 32 = 4294967296 := by decide
                                                                  have := (small_limbs y).get j
                                                                  omega)
  have e : (4294967296 : Nat) ^ (j + 1) = 2 ^ (32 * (j + 1)) := by rw [Nat.pow_mul]
  rw [e]
  have h5 : y * 2 ^ (32 - blen ((limbs y)[j]?.getD 0)) < 2 ^ blen y * 2 ^ (32 - blen ((limbs y)[j]?.getD 0)) := Nat.mul_lt_mul_of_pos_right h3 (Nat.pow_pos (by decide))
  rw [← Nat.pow_add] at h5
  rw [show 32 * (j + 1) = blen y + (32 - blen ((limbs y)[j]?.getD 0)) from by omega]
  exact h5
theorem div_end {x y s U Q : Nat} (h : x * 2 ^ s = U + Q * (y * 2 ^ s)) (hU : U < y * 2 ^ s) : Q = x / y ∧ U / 2 ^ s = x % y := by
  have hp : 0 < 2 ^ s := Nat.pow_pos (by decide)
  have h1 : x * 2 ^ s / (y * 2 ^ s) = x / y := Nat.mul_div_mul_right _ _ hp
  have h2 : x * 2 ^ s % (y * 2 ^ s) = x % y * 2 ^ s := Nat.mul_mod_mul_right _ _ _
  rw [h, Nat.mul_comm Q, Nat.add_mul_div_left _ _ (by omega), Nat.div_eq_of_lt hU, Nat.zero_add] at h1
  rw [h, Nat.mul_comm Q, Nat.add_mul_mod_self_left, Nat.mod_eq_of_lt hU] at h2
  exact ⟨h1, by rw [h2, Nat.mul_div_cancel _ hp]⟩
theorem top_pos {R : List Nat} {m : Nat} (hs : Small R) (hl : R.length = m + 1) (h : 4294967296 ^ m ≤ val R) : 0 < R[m]?.getD 0 := by
  cases Nat.eq_zero_or_pos (R[m]?.getD 0) with
  | inr h => exact h
  | inl e =>
    have h1 := val_split_at (l := R) (j := m) (by omega)
    rw [e, List.drop_of_length_le (by omega)] at h1
    have h2 := val_lt (hs.take m)
    rw [List.length_take, Nat.min_eq_left (by omega)] at h2
    have e1 : val ([] : List Nat) = 0 := rfl
    simp only [e1, Nat.mul_zero, Nat.add_zero] at h1
    omega
theorem one_limb {y : Nat} (h : nl y = 1) : (limbs y)[0]?.getD 0 = y ∧ 0 < y ∧ y < 4294967296 := by
  have h0 : 0 < y := by
    cases Nat.eq_zero_or_pos y with
    | inl h0 => subst h0; rw [nl_zero] at h; omega
    | inr h => exact h
  have h1 := lt_pow_nl y
  rw [h, Nat.pow_one] at h1
  rw [limbs_pos h0]
  exact ⟨by simp; omega, h0, h1⟩
end Go.Mt
