/-
  Knuth's division: the plain arithmetic of one digit. No program.
-/
import Derived.Test.YtbhenelehhiakaaGreatVct1
import Derived.Deep.LoopGhost
import Derived.Deep.CutRange
import Derived.Deep.CutBlock
import Derived.BigQuiet
import Derived.Deep.QuietTactic
import Derived.Deep.RegionHeld3
import Derived.Laws.AppendOwn
import Derived.Laws.OwnMore
set_option linter.unusedVariables false
set_option linter.unusedSimpArgs false
namespace Go.Proofs.YtbhenelehhiakaaGreat
structure Tops (b P U V top next t u2 : Nat) : Prop where
 hb : 0 < b
 hP : 0 < P
 htop : 0 < top
 hnext : next < b
 hu2 : u2 < b
 hV : ∃ vl, V = (top * b + next) * P + vl ∧ vl < P
 hU : ∃ ul, U = (t * b + u2) * P + ul ∧ ul < P
 hlt : U < V * b
theorem Tops.vpos {b P U V top next t u2 : Nat} (h : Tops b P U V top next t u2) : b * P ≤ V := by
 obtain ⟨vl, hv, _⟩ := h.hV
 have h1 : 1 * b ≤ top * b := Nat.mul_le_mul_right _ h.htop
 have h2 : b * P ≤ (top * b + next) * P := Nat.mul_le_mul_right _ (by omega)
 omega
theorem Tops.v0 {b P U V top next t u2 : Nat} (h : Tops b P U V top next t u2) : 0 < V := Nat.lt_of_lt_of_le (Nat.mul_pos h.hb h.hP) h.vpos
theorem Tops.tle {b P U V top next t u2 : Nat} (h : Tops b P U V top next t u2) : t < top * b + b := by
 obtain ⟨vl, hv, hvl⟩ := h.hV
 obtain ⟨ul, hu, hul⟩ := h.hU
 have h1 : V * b < (top * b + b) * b * P := by
  have h2 : V < (top * b + b) * P := by
   have h3 : (top * b + next + 1) * P ≤ (top * b + b) * P := Nat.mul_le_mul_right _ (by have := h.hnext; omega)
   rw [Nat.add_mul, Nat.one_mul] at h3
   omega
  have h4 := Nat.mul_lt_mul_of_pos_right h2 h.hb
  rwa [Nat.mul_right_comm] at h4
 have h5 : t * b * P ≤ U := by
  have : t * b * P ≤ (t * b + u2) * P := Nat.mul_le_mul_right _ (by omega)
  omega
 have h6 : t * b * P < (top * b + b) * b * P := by have := h.hlt; omega
 have h7 := Nat.lt_of_mul_lt_mul_right h6
 exact Nat.lt_of_mul_lt_mul_right h7
theorem Tops.start {b P U V top next t u2 : Nat} (h : Tops b P U V top next t u2) : U / V ≤ t / top := by
 obtain ⟨vl, hv, hvl⟩ := h.hV
 obtain ⟨ul, hu, hul⟩ := h.hU
 have h1 : t < (t / top + 1) * top := by
  have := Nat.lt_mul_div_succ t h.htop
  rwa [Nat.mul_comm] at this
 have h2 : (t + 1) * b * P ≤ (t / top + 1) * V := by
  have h3 : top * b * P ≤ V := by
   have : top * b * P ≤ (top * b + next) * P := Nat.mul_le_mul_right _ (by omega)
   omega
  have h4 : (t / top + 1) * (top * b * P) ≤ (t / top + 1) * V := Nat.mul_le_mul_left _ h3
  have h5 : (t + 1) * (b * P) ≤ (t / top + 1) * top * (b * P) := Nat.mul_le_mul_right _ h1
  rw [← Nat.mul_assoc, Nat.mul_assoc _ top, ← Nat.mul_assoc] at h5
  rw [Nat.mul_assoc _ (top : Nat)] at h5
  have e : (t / top + 1) * (top * (b * P)) = (t / top + 1) * (top * b * P) := by rw [Nat.mul_assoc top]
  omega
 have h6 : U < (t + 1) * b * P := by
  have h7 : (t * b + u2 + 1) * P ≤ (t * b + b) * P := Nat.mul_le_mul_right _ (by have := h.hu2; omega)
  rw [Nat.add_mul, Nat.one_mul] at h7
  have e : (t + 1) * b = t * b + b := by rw [Nat.add_mul, Nat.one_mul]
  rw [e]
  omega
 have h8 : U / V < t / top + 1 := by
  rw [Nat.div_lt_iff_lt_mul h.v0]
  omega
 omega
theorem Tops.dec {b P U V top next t u2 q r : Nat} (h : Tops b P U V top next t u2) (hq : q * top + r = t) (hc : b ≤ q ∨ r * b + u2 < q * next) : U / V < q := by
 obtain ⟨vl, hv, hvl⟩ := h.hV
 obtain ⟨ul, hu, hul⟩ := h.hU
 rw [Nat.div_lt_iff_lt_mul h.v0]
 rcases hc with hc | hc
 ·have h1 : b * V ≤ q * V := Nat.mul_le_mul_right _ hc
  have := h.hlt
  rw [Nat.mul_comm] at h1
  omega
 ·have h1 : (t * b + u2 + 1) * P ≤ q * (top * b + next) * P := by
   apply Nat.mul_le_mul_right
   rw [Nat.mul_add, ← hq, Nat.add_mul, ← Nat.mul_assoc]
   omega
  have h2 : q * (top * b + next) * P ≤ q * V := by
   rw [Nat.mul_assoc]
   exact Nat.mul_le_mul_left _ (by omega)
  rw [Nat.add_mul, Nat.one_mul] at h1
  omega
theorem Tops.fin {b P U V top next t u2 q r : Nat} (h : Tops b P U V top next t u2) (hq : q * top + r = t) (hqb : q < b) (hc : q * next ≤ r * b + u2) : q * V < U + V := by
 obtain ⟨vl, hv, hvl⟩ := h.hV
 obtain ⟨ul, hu, hul⟩ := h.hU
 have h1 : q * (top * b + next) * P ≤ (t * b + u2) * P := by
  apply Nat.mul_le_mul_right
  rw [Nat.mul_add, ← hq, Nat.add_mul, ← Nat.mul_assoc]
  omega
 have h2 : q * vl < b * P := Nat.mul_lt_mul_of_lt_of_le hqb (Nat.le_of_lt hvl) h.hP
 have h3 := h.vpos
 have h4 : q * V = q * (top * b + next) * P + q * vl := by rw [hv, Nat.mul_add, Nat.mul_assoc]
 omega
theorem Tops.far {b P U V top next t u2 q r : Nat} (h : Tops b P U V top next t u2) (hq : q * top + r = t) (hr : b ≤ r) : q < b ∧ q * next ≤ r * b + u2 := by
 have h1 := h.tle
 have h2 : q < b := by
  have h3 : q * top < b * top := by rw [Nat.mul_comm b]; omega
  exact Nat.lt_of_mul_lt_mul_right h3
 refine ⟨h2, ?_⟩
 have h4 : q * next ≤ r * b := Nat.mul_le_mul (by omega) (by have := h.hnext; omega)
 omega
theorem pow_add_mul (j i x : Nat) : 4294967296 ^ j * (4294967296 ^ i * x) = 4294967296 ^ (j + i) * x := by rw [Nat.pow_add, Nat.mul_assoc]
theorem mulsub_round {u v : List Nat} {A q j i carry borrow vi ui limb br : Nat} (hj : j + i < u.length) (h : val u + 4294967296 ^ j * (q * val (v.take i)) = A + 4294967296 ^ (j + i) * (carry + borrow))
  (hv : v[i]?.getD 0 = vi) (hu : u[j + i]?.getD 0 = ui) (hl : limb + (q * vi + carry) % 4294967296 + borrow = ui + 4294967296 * br) :
  val (u.set (j + i) limb) + 4294967296 ^ j * (q * val (v.take (i + 1))) = A + 4294967296 ^ (j + (i + 1)) * ((q * vi + carry) / 4294967296 + br) := by
 have h1 := val_set hj limb
 rw [hu] at h1
 have h2 : q * vi + carry = (q * vi + carry) % 4294967296 + 4294967296 * ((q * vi + carry) / 4294967296) := by omega
 generalize (q * vi + carry) % 4294967296 = pl at *
 generalize (q * vi + carry) / 4294967296 = ph at *
 rw [val_take_succ', hv, Nat.mul_add, Nat.mul_add]
 have e1 : 4294967296 ^ j * (q * (4294967296 ^ i * vi)) = 4294967296 ^ (j + i) * (q * vi) := by rw [Nat.mul_left_comm q, pow_add_mul]
 have e2 : 4294967296 ^ (j + (i + 1)) * (ph + br) = 4294967296 ^ (j + i) * (4294967296 * ph + 4294967296 * br) := by
  rw [← Nat.add_assoc, Nat.pow_succ, Nat.mul_assoc, Nat.mul_add 4294967296]
 rw [e1, e2]
 have e3 : 4294967296 ^ (j + i) * limb + 4294967296 ^ (j + i) * (q * vi) + 4294967296 ^ (j + i) * (carry + borrow) = 4294967296 ^ (j + i) * ui + 4294967296 ^ (j + i) * (4294967296 * ph + 4294967296 * br) := by
  rw [← Nat.mul_add, ← Nat.mul_add, ← Nat.mul_add]
  congr 1
  omega
 omega
theorem mulsub_end {u : List Nat} {A W j n carry borrow ui limb br : Nat} (hj : j + n < u.length) (h : val u + W = A + 4294967296 ^ (j + n) * (carry + borrow))
  (hu : u[j + n]?.getD 0 = ui) (hl : limb + carry + borrow = ui + 4294967296 * br) :
  val (u.set (j + n) limb) + W = A + 4294967296 ^ (j + n + 1) * br := by
 have h1 := val_set hj limb
 rw [hu] at h1
 rw [Nat.pow_succ, Nat.mul_assoc]
 have e3 : 4294967296 ^ (j + n) * limb + 4294967296 ^ (j + n) * (carry + borrow) = 4294967296 ^ (j + n) * ui + 4294967296 ^ (j + n) * (4294967296 * br) := by
  rw [← Nat.mul_add, ← Nat.mul_add]
  congr 1
  omega
 omega
theorem back_round {u v : List Nat} {A j i c vi ui : Nat} (hj : j + i < u.length) (h : val u + 4294967296 ^ (j + i) * c = A + 4294967296 ^ j * val (v.take i))
  (hv : v[i]?.getD 0 = vi) (hu : u[j + i]?.getD 0 = ui) :
  val (u.set (j + i) ((ui + vi + c) % 4294967296)) + 4294967296 ^ (j + (i + 1)) * ((ui + vi + c) / 4294967296) = A + 4294967296 ^ j * val (v.take (i + 1)) := by
 have h1 := val_set hj ((ui + vi + c) % 4294967296)
 rw [hu] at h1
 have h2 : ui + vi + c = (ui + vi + c) % 4294967296 + 4294967296 * ((ui + vi + c) / 4294967296) := by omega
 generalize (ui + vi + c) % 4294967296 = pl at *
 generalize (ui + vi + c) / 4294967296 = ph at *
 rw [val_take_succ', hv, Nat.mul_add, pow_add_mul, ← Nat.add_assoc, Nat.pow_succ, Nat.mul_assoc]
 have e3 : 4294967296 ^ (j + i) * pl + 4294967296 ^ (j + i) * (4294967296 * ph) = 4294967296 ^ (j + i) * ui + 4294967296 ^ (j + i) * vi + 4294967296 ^ (j + i) * c := by
  rw [← Nat.mul_add, ← Nat.mul_add, ← Nat.mul_add]
  congr 1
  omega
 omega
theorem back_end {u : List Nat} {A j n c ui : Nat} (hj : j + n < u.length) (h : val u + 4294967296 ^ (j + n) * c = A) (hu : u[j + n]?.getD 0 = ui) :
  val (u.set (j + n) ((ui + c) % 4294967296)) + 4294967296 ^ (j + n + 1) * ((ui + c) / 4294967296) = A := by
 have h1 := val_set hj ((ui + c) % 4294967296)
 rw [hu] at h1
 have h2 : ui + c = (ui + c) % 4294967296 + 4294967296 * ((ui + c) / 4294967296) := by omega
 generalize (ui + c) % 4294967296 = pl at *
 generalize (ui + c) / 4294967296 = ph at *
 rw [Nat.pow_succ, Nat.mul_assoc]
 have e3 : 4294967296 ^ (j + n) * pl + 4294967296 ^ (j + n) * (4294967296 * ph) = 4294967296 ^ (j + n) * ui + 4294967296 ^ (j + n) * c := by
  rw [← Nat.mul_add, ← Nat.mul_add]
  congr 1
  omega
 omega
theorem digit_lt {A V q p : Nat} (hp : 0 < p) (h : A / p / V = q) (hV : 0 < V) (X : Nat) (hX : X + p * (q * V) = A) : X < V * p := by
 have h1 : A / p < (q + 1) * V := by rw [← h]; have := Nat.lt_mul_div_succ (A / p) hV; rwa [Nat.mul_comm] at this
 have h2 : A < p * ((q + 1) * V) := by
  have := Nat.lt_mul_div_succ A hp
  have h3 : p * (A / p + 1) ≤ p * ((q + 1) * V) := Nat.mul_le_mul_left _ h1
  omega
 rw [Nat.add_mul, Nat.one_mul, Nat.mul_add, Nat.mul_comm p V] at h2
 omega
theorem fin_no {A V q p X : Nat} (hp : 0 < p) (hV : 0 < V) (hg : A / p / V ≤ q) (h : X + p * (q * V) = A) : X < V * p := by
 have h1 : q * V ≤ A / p := by
  rw [Nat.le_div_iff_mul_le hp, Nat.mul_comm]; omega
 have h2 : q ≤ A / p / V := by rw [Nat.le_div_iff_mul_le hV]; exact h1
 exact digit_lt hp (by omega) hV X h
theorem fin_yes {A V q p X Y T ov : Nat} (hp : 0 < p) (hV : 0 < V) (hfin : q * V < A / p + V) (h : X + p * (q * V) = A + T) (hX : X < T) (hY : Y < T) (hb : Y + T * ov = X + p * V) (ho : ov ≤ 1) :
  0 < q ∧ Y + p * ((q - 1) * V) = A ∧ Y < V * p := by
 have h1 : A / p < q * V := by
  rw [Nat.div_lt_iff_lt_mul hp, Nat.mul_comm]; omega
 have hq : 0 < q := by
  cases Nat.eq_zero_or_pos q with
  | inl e => rw [e, Nat.zero_mul] at h1; exact absurd h1 (Nat.not_lt_zero _)
  | inr h => exact h
 obtain ⟨r, rfl⟩ : ∃ r, q = r + 1 := ⟨q - 1, by omega⟩
 rw [Nat.add_sub_cancel]
 rw [Nat.add_mul, Nat.one_mul] at hfin h1
 rw [Nat.add_mul, Nat.one_mul, Nat.mul_add] at h
 have h2 : p * (r * V) ≤ A := by
  have h3 : p * (r * V) ≤ p * (A / p) := Nat.mul_le_mul_left _ (by omega)
  have := Nat.mul_div_le A p
  omega
 have h4 : ov = 1 := by
  cases Nat.eq_zero_or_pos ov with
  | inl e => rw [e, Nat.mul_zero] at hb; omega
  | inr h => omega
 rw [h4, Nat.mul_one] at hb
 have h5 : Y + p * (r * V) = A := by omega
 refine ⟨by omega, h5, digit_lt hp ?_ hV Y h5⟩
 have h6 : r ≤ A / p / V := by rw [Nat.le_div_iff_mul_le hV]; omega
 have h7 : A / p / V < r + 1 := by rw [Nat.div_lt_iff_lt_mul hV, Nat.add_mul, Nat.one_mul]; omega
 omega
theorem val_high {u : List Nat} (hs : Small u) {k : Nat} (h : ∀ t, k ≤ t → u[t]?.getD 0 = 0) : val u < 4294967296 ^ k := by
 have h1 := val_take_drop u k
 have h2 : val (u.drop k) = 0 := val_eq_zero fun x hx => by
  obtain ⟨i, hi, rfl⟩ := List.getElem_of_mem hx
  rw [List.length_drop] at hi
  have := h (k + i) (by omega)
  rw [List.getElem?_eq_getElem (by omega)] at this
  rw [List.getElem_drop]
  exact this
 rw [h2, Nat.mul_zero, Nat.add_zero] at h1
 rw [h1]
 refine Nat.lt_of_lt_of_le (val_lt (hs.take k)) (Nat.pow_le_pow_right (by decide) ?_)
 rw [List.length_take]; omega
theorem high_of_val {u : List Nat} {k : Nat} (h : val u < 4294967296 ^ k) : ∀ t, k ≤ t → u[t]?.getD 0 = 0 := by
 intro t ht
 by_cases hl : t < u.length
 ·have h1 := val_split_at hl
  cases Nat.eq_zero_or_pos (u[t]?.getD 0) with
  | inl h => exact h
  | inr hp =>
   have h2 : 4294967296 ^ t * 1 ≤ 4294967296 ^ t * (u[t]?.getD 0 + 4294967296 * val (u.drop (t + 1))) := Nat.mul_le_mul_left _ (by omega)
   have h3 : 4294967296 ^ k ≤ 4294967296 ^ t := Nat.pow_le_pow_right (by decide) ht
   omega
 ·rw [List.getElem?_eq_none (by omega)]; rfl
theorem val_take_high {u : List Nat} {k : Nat} (h : val u < 4294967296 ^ k) : val (u.take k) = val u := by
 have h1 := val_take_drop u k
 have h2 : val (u.drop k) = 0 := val_eq_zero fun x hx => by
  obtain ⟨i, hi, rfl⟩ := List.getElem_of_mem hx
  rw [List.length_drop] at hi
  have := high_of_val h (k + i) (by omega)
  rw [List.getElem?_eq_getElem (by omega)] at this
  rw [List.getElem_drop]
  exact this
 rw [h2, Nat.mul_zero, Nat.add_zero] at h1
 exact h1.symm
theorem tops_of {u v : List Nat} (hu : Small u) (hv : Small v) {j n top next t1 t0 u2 : Nat} (hn : 2 ≤ n) (hvl : v.length = n) (hlt : val u < val v * 4294967296 ^ (j + 1))
  (h1 : v[n - 1]?.getD 0 = top) (h2 : v[n - 2]?.getD 0 = next) (h3 : u[j + n]?.getD 0 = t1) (h4 : u[j + n - 1]?.getD 0 = t0) (h5 : u[j + n - 2]?.getD 0 = u2) (htop : 0 < top) :
  Tops 4294967296 (4294967296 ^ (n - 2)) (val u / 4294967296 ^ j) (val v) top next (t1 * 4294967296 + t0) u2 := by
 have hvt : val v = val (v.take (n - 2)) + 4294967296 ^ (n - 2) * (next + 4294967296 * top) := by
  rw [val_split_at (l := v) (j := n - 2) (by omega), h2, show n - 2 + 1 = n - 1 from by omega, val_drop (by omega), h1, List.drop_of_length_le (by omega)]
  have e : val ([] : List Nat) = 0 := rfl
  rw [e, Nat.mul_zero, Nat.add_zero]
 have hhigh : val (u.drop (j + n + 1)) = 0 := by
  rw [val_drop_div hu, Nat.div_eq_of_lt]
  have h6 := val_lt hv
  rw [hvl] at h6
  have h7 : val v * 4294967296 ^ (j + 1) < 4294967296 ^ n * 4294967296 ^ (j + 1) := Nat.mul_lt_mul_of_pos_right h6 (Nat.pow_pos (by decide))
  rw [← Nat.pow_add] at h7
  rw [show j + n + 1 = n + (j + 1) from by omega]
  omega
 have hul : val (u.drop (j + n - 2)) = u2 + 4294967296 * (t0 + 4294967296 * t1) := by
  rw [val_drop' u (j + n - 2), h5, show j + n - 2 + 1 = j + n - 1 from by omega, val_drop' u (j + n - 1), h4, show j + n - 1 + 1 = j + n from by omega, val_drop' u (j + n), h3, hhigh, Nat.mul_zero, Nat.add_zero]
 have hU : val u / 4294967296 ^ j = val (u.drop j) := (val_drop_div hu j).symm
 have hdd : val (u.drop j) = val ((u.drop j).take (n - 2)) + 4294967296 ^ ((u.drop j).take (n - 2)).length * val ((u.drop j).drop (n - 2)) := val_take_drop _ _
 refine ⟨by decide, Nat.pow_pos (by decide), htop, ?_, ?_, ⟨val (v.take (n - 2)), ?_, ?_⟩, ?_, ?_⟩
 ·rw [← h2]; exact hv.get _
 ·rw [← h5]; exact hu.get _
 ·rw [hvt, Nat.add_comm, Nat.mul_comm (4294967296 ^ (n - 2)), Nat.add_comm next, Nat.mul_comm 4294967296 top]
 ·have := val_lt (hv.take (n - 2))
  rwa [List.length_take, Nat.min_eq_left (by omega)] at this
 ·rw [hU, ← List.take_append_drop (n - 2) (u.drop j)]
  rw [List.drop_drop, show j + (n - 2) = j + n - 2 from by omega]
  by_cases hlen : n - 2 ≤ (u.drop j).length
  ·refine ⟨val ((u.drop j).take (n - 2)), ?_, ?_⟩
   ·rw [val_append, hul, List.length_take, Nat.min_eq_left hlen]
    rw [Nat.add_comm (val _), Nat.mul_comm (4294967296 ^ (n - 2))]
    congr 2
    omega
   ·have := val_lt ((hu.drop j).take (n - 2))
    rwa [List.length_take, Nat.min_eq_left hlen] at this
  ·have e0 : val (u.drop (j + n - 2)) = 0 := by
    rw [List.drop_of_length_le (by rw [List.length_drop] at hlen; omega)]; rfl
   rw [hul] at e0
   have e1 : t1 = 0 := by omega
   have e2 : t0 = 0 := by omega
   have e3 : u2 = 0 := by omega
   subst e1 e2 e3
   refine ⟨val ((u.drop j).take (n - 2)), ?_, ?_⟩
   ·rw [val_append, hul]; simp
   ·refine Nat.lt_of_lt_of_le (val_lt ((hu.drop j).take (n - 2))) (Nat.pow_le_pow_right (by decide) ?_)
    rw [List.length_take]; omega
 ·rw [Nat.div_lt_iff_lt_mul (Nat.pow_pos (by decide)), Nat.mul_assoc, ← Nat.pow_succ']
  exact hlt
end Go.Proofs.YtbhenelehhiakaaGreat
namespace Go.Proofs.YtbhenelehhiakaaGreat
open Go.RowKit
theorem limbs_top {x j : Nat} (h : nl x = j + 1) : (limbs x)[j]?.getD 0 ≠ 0 ∧ blen x = 32 * j + blen ((limbs x)[j]?.getD 0) := by
 have hs := small_limbs x
 have hlen : (limbs x).length = j + 1 := h
 have hne : (limbs x)[j]?.getD 0 ≠ 0 := by
  intro e0
  have hsp := val_split_at (l := limbs x) (j := j) (by omega)
  have h4 := val_lt (hs.take j)
  rw [List.length_take, Nat.min_eq_left (by omega)] at h4
  rw [e0, List.drop_of_length_le (by omega), val_limbs] at hsp
  have e1 : val ([] : List Nat) = 0 := rfl
  rw [e1] at hsp
  have h5 := pow_nl_le (n := x) (by
   cases Nat.eq_zero_or_pos x with
   | inl h => subst h; simp [limbs_zero] at hlen
   | inr h => exact h)
  rw [h, Nat.add_sub_cancel] at h5
  omega
 have hbl := blen_val (l := limbs x) hs (by omega) (by rw [hlen]; exact hne)
 rw [val_limbs, hlen, Nat.add_sub_cancel] at hbl
 exact ⟨hne, hbl⟩
theorem norm_shift {y j : Nat} (h : nl y = j + 1) : y * 2 ^ (32 - blen ((limbs y)[j]?.getD 0)) < 4294967296 ^ (j + 1) := by
 obtain ⟨h1, h2⟩ := limbs_top h
 have h3 := lt_pow_blen y
 have h4 : blen ((limbs y)[j]?.getD 0) ≤ 32 := blen_le_of_lt (by have e : (2 : Nat) ^ 32 = 4294967296 := by decide
                                                                 have := (small_limbs y).get j
                                                                 omega)
 have e : (4294967296 : Nat) ^ (j + 1) = 2 ^ (32 * (j + 1)) := by rw [Nat.pow_mul]
 rw [e]
 have h5 : y * 2 ^ (32 - blen ((limbs y)[j]?.getD 0)) < 2 ^ blen y * 2 ^ (32 - blen ((limbs y)[j]?.getD 0)) := Nat.mul_lt_mul_of_pos_right h3 (Nat.pow_pos (by decide))
 rw [← Nat.pow_add] at h5
 rw [show 32 * (j + 1) = blen y + (32 - blen ((limbs y)[j]?.getD 0)) from by omega]
 exact h5
theorem two_new (w : World) (x y : Value) (t : TypeId) : ∀ j u, [x, y][j]? = some u → (w.alloc (.cells #[x, y] t)).cell? ((⟨w.heap.size, 0, none⟩ : Addr).add j) = some u := by
 intro j u hj
 have hlt : j < 2 := by have := (List.getElem?_eq_some_iff.1 hj).1; simpa using this
 have e : (⟨w.heap.size, 0, none⟩ : Addr).add j = ⟨w.heap.size, j, none⟩ := by
  by_cases h : j = 0
  ·subst h; simp [Addr.add]
  ·simp [Addr.add, h]
 rw [e]
 exact (Blk.new w t #[x, y]).cell (by simpa using hj)
def Row (w : World) (b : Nat) (t : TypeId) (l : List Nat) : Prop := ∃ rest : List Value, Blk w b t ((l.map fun x : Nat => Value.int .u32 (x : Int)) ++ rest).toArray
theorem Row.word {w : World} {b : Nat} {t : TypeId} {l : List Nat} (h : Row w b t l) {i : Nat} (hi : i < l.length) : w.cell? ⟨b, i, none⟩ = some (.int .u32 ((l[i]?.getD 0 : Nat) : Int)) := by
 obtain ⟨rest, h⟩ := h
 refine h.cell ?_
 rw [List.getElem?_toArray, List.getElem?_append_left (by simpa using hi), List.getElem?_map, List.getElem?_eq_getElem hi]
 rfl
theorem Row.free {w : World} {b : Nat} {t : TypeId} {l : List Nat} (h : Row w b t l) (i : Nat) : w.frozen? ⟨b, i, none⟩ = false := by
 obtain ⟨rest, h⟩ := h
 exact h.free i
theorem Row.lt {w : World} {b : Nat} {t : TypeId} {l : List Nat} (h : Row w b t l) : b < w.heap.size := by
 obtain ⟨rest, h⟩ := h
 exact h.lt
theorem Row.set {w : World} {b : Nat} {t : TypeId} {l : List Nat} (h : Row w b t l) {i : Nat} (hi : i < l.length) (x : Nat) : Row (w.setCell ⟨b, i, none⟩ (.int .u32 (x : Int))) b t (l.set i x) := by
 obtain ⟨rest, h⟩ := h
 refine ⟨rest, ?_⟩
 have := h.set i (.int .u32 (x : Int))
 rw [List.setIfInBounds_toArray, List.set_append_left _ _ (by simpa using hi)] at this
 rw [List.map_set]
 exact this
theorem Row.below {w w' : World} {b n : Nat} {t : TypeId} {l : List Nat} (h : Row w b t l) (k : Below n w w') (hb : b < n) : Row w' b t l := by
 obtain ⟨rest, h⟩ := h
 exact ⟨rest, h.below k hb⟩
theorem Row.ext {w w' : World} {b : Nat} {t : TypeId} {l : List Nat} (h : Row w b t l) (k : Ext w w') : Row w' b t l := h.below k h.lt
theorem Row.grown {w w' : World} {b : Nat} {t : TypeId} {l : List Nat} {r : Option Nat} (h : Row w b t l) (k : w.grownBy w' r) (hr : some b ≠ r) : Row w' b t l := by
 obtain ⟨rest, h⟩ := h
 exact ⟨rest, h.grown k hr⟩
theorem Row.far {w : World} {b : Nat} {t : TypeId} {l : List Nat} (h : Row w b t l) {g i : Nat} {v : Value} (hg : g ≠ b) : Row (w.setCell ⟨g, i, none⟩ v) b t l := by
 obtain ⟨rest, h⟩ := h
 exact ⟨rest, (Below.heap_setCell _ _ _ _ (by simp; omega)).trans h⟩
theorem Row.take {w : World} {b : Nat} {t : TypeId} {l : List Nat} (h : Row w b t l) (k : Nat) : Row w b t (l.take k) := by
 obtain ⟨rest, h⟩ := h
 refine ⟨((l.drop k).map fun x : Nat => Value.int .u32 (x : Int)) ++ rest, ?_⟩
 rw [← List.append_assoc, ← List.map_append, List.take_append_drop]
 exact h
theorem row_of_owns {w : World} {base g n c : Nat} {E : TypeId} {l : List Nat} (h : w.ownsRow base E 1 (.slice (some ⟨g, 0, none⟩) n c) n (l.map fun x : Nat => Value.int .u32 (x : Int))) : Row w g E l := by
 obtain ⟨h1, h2⟩ := h
 rcases h2 with ⟨h2, _⟩ | ⟨g', cap, cur, h2, h3, h4, h5, h6, h7, h8⟩
 ·cases h2
 ·cases h2
  refine ⟨cur.toList.drop (n * 1), ?_⟩
  rw [← h8, List.take_append_drop]
  exact h4
theorem Row.nat {B : Nat} {w : World} {b c : Nat} {t : TypeId} {l : List Nat} (h : Row w b t l) (hB : B ≤ b) (hs : Small l) (n : Nat) (hn : n ≤ l.length) (hc : n ≤ c) (hm : c ≤ 9223372036854775807) : NatS B w (some ⟨b, 0, none⟩) n c (l.take n) :=
 natS_mk (by rw [List.length_take]; omega) hc hm (hs.take n) hB (fun i hi => by
  rw [List.getElem?_take_of_lt hi]
  simpa using h.word (i := i) (by omega)) (fun i _ => by simpa using h.free i)
structure MState (w0 wx : World) (bv bu bo : Nat) (E : TypeId) (R u : List Nat) (co : Array Value) (qq j m nx i ca bw : Nat) : Prop where
 ext : Ext w0 wx
 rowv : Row wx bv E R
 blko : Blk wx bo E co
 ex : ∃ u' : List Nat, u'.length = nx + 1 ∧ Small u' ∧ Row wx bu E u' ∧ val u' + 4294967296 ^ j * (qq * val (R.take i)) = val u + 4294967296 ^ (j + i) * (ca + bw) ∧ ∀ t, j + (m + 1) < t → u'[t]?.getD 0 = 0
structure BState (w0 wx : World) (bv bu bo : Nat) (E : TypeId) (R u : List Nat) (co : Array Value) (j m nx i ca : Nat) : Prop where
 ext : Ext w0 wx
 rowv : Row wx bv E R
 blko : Blk wx bo E co
 ex : ∃ u' : List Nat, u'.length = nx + 1 ∧ Small u' ∧ Row wx bu E u' ∧ val u' + 4294967296 ^ (j + i) * ca = val u + 4294967296 ^ j * val (R.take i) ∧ ∀ t, j + (m + 1) < t → u'[t]?.getD 0 = 0
structure KState (w0 wr : World) (bv bu bo : Nat) (E : TypeId) (R : List Nat) (X jj mm nx : Nat) : Prop where
 ext : Ext w0 wr
 rowv : Row wr bv E R
 ex : ∃ u Q : List Nat, u.length = nx + 1 ∧ Small u ∧ Row wr bu E u ∧ Q.length + jj = mm + 1 ∧ Small Q ∧ Blk wr bo E (words (List.replicate jj 0 ++ Q)) ∧ X = val u + 4294967296 ^ jj * (val Q * val R) ∧ val u < val R * 4294967296 ^ jj
theorem kround {w0 W : World} {bv bu bo : Nat} {E : TypeId} {R u unew Q : List Nat} {X q j nx d : Nat} (hE : Ext w0 W) (hrv : Row W bv E R) (hbo : Blk W bo E (words (List.replicate (j + 1) 0 ++ Q))) (hu : Row W bu E unew)
  (hul : unew.length = nx + 1) (hus : Small unew) (hne : bo ≠ bu) (hnv : bo ≠ bv) (hbo0 : w0.heap.size ≤ bo) (hq : q < 4294967296) (hQl : Q.length + (j + 1) = d + 1) (hQs : Small Q)
  (hX : X = val u + 4294967296 ^ (j + 1) * (val Q * val R)) (hval : val unew + 4294967296 ^ j * (q * val R) = val u) (hlt : val unew < val R * 4294967296 ^ j) :
  KState w0 (W.setCell ⟨bo, j, none⟩ (.int .u32 (q : Int))) bv bu bo E R X j d nx := by
 refine ⟨hE.setCell hbo0 _, hrv.far hnv, unew, q :: Q, hul, hus, hu.far hne, by rw [List.length_cons]; omega, small_cons hq hQs, ?_, ?_, hlt⟩
 ·have := hbo.set j (.int .u32 (q : Int))
  rw [words_set, set_fill] at this
  exact this
 ·rw [hX, ← hval, val, Nat.add_mul, Nat.mul_add, Nat.pow_succ, Nat.mul_assoc, Nat.mul_assoc 4294967296 (val Q)]
  omega
theorem subOut_eq {u c b : Nat} (hu : u < 4294967296) (h : c + b ≤ u) : ((subOut b u c : Nat) : Int) = (u : Int) - (c : Int) - (b : Int) := by
 unfold subOut
 omega
theorem div_end {x y s U Q : Nat} (h : x * 2 ^ s = U + Q * (y * 2 ^ s)) (hU : U < y * 2 ^ s) : Q = x / y ∧ U / 2 ^ s = x % y := by
 have hp : 0 < 2 ^ s := Nat.pow_pos (by decide)
 have h1 : x * 2 ^ s / (y * 2 ^ s) = x / y := Nat.mul_div_mul_right _ _ hp
 have h2 : x * 2 ^ s % (y * 2 ^ s) = x % y * 2 ^ s := Nat.mul_mod_mul_right _ _ _
 rw [h, Nat.mul_comm Q, Nat.add_mul_div_left _ _ (by omega), Nat.div_eq_of_lt hU, Nat.zero_add] at h1
 rw [h, Nat.mul_comm Q, Nat.add_mul_mod_self_left, Nat.mod_eq_of_lt hU] at h2
 exact ⟨h1, by rw [h2, Nat.mul_div_cancel _ hp]⟩
theorem top_pos {R : List Nat} {m : Nat} (hs : Small R) (hl : R.length = m + 1) (h : 4294967296 ^ m ≤ val R) : 0 < R[m]?.getD 0 := by
 cases Nat.eq_zero_or_pos (R[m]?.getD 0) with
 | inr h => exact h
 | inl e =>
  have h1 := val_split_at (l := R) (j := m) (by omega)
  rw [e, List.drop_of_length_le (by omega)] at h1
  have h2 := val_lt (hs.take m)
  rw [List.length_take, Nat.min_eq_left (by omega)] at h2
  have e1 : val ([] : List Nat) = 0 := rfl
  simp only [e1, Nat.mul_zero, Nat.add_zero] at h1
  omega
theorem kstart {w w3 w4 : World} {bv bu bo : Nat} {E : TypeId} {x y s m d n : Nat} {R R2 : List Nat} (hE : Ext w w3) (hE4 : Ext w3 w4) (hv : Row w3 bv E R) (hrow : Row w3 bu E (R2 ++ [0, 0])) (hbo : Blk w4 bo E (words (List.replicate (d + 1) 0)))
  (hvR : val R = y * 2 ^ s) (hvR2 : val R2 = x * 2 ^ s) (hs : s < 32) (hsm : Small R2) (hl : n ≤ R2.length) (hx : nl x = n) (hy : nl y = m + 1) (hn : n = m + 1 + d) (hy0 : 0 < y) : KState w w4 bv bu bo E R (x * 2 ^ s) (d + 1) d n := by
 have h1 : val (R2 ++ [0, 0]) = x * 2 ^ s := by rw [val_append, hvR2]; simp [val]
 have h2 := lt_pow_nl x
 rw [hx] at h2
 have h3 := pow_nl_le hy0
 rw [hy, Nat.add_sub_cancel] at h3
 have h4 : x * 2 ^ s < 4294967296 ^ (n + 1) := by
  rw [Nat.pow_succ]
  have h5 := pow_s_le hs
  have h6 : x * 2 ^ s ≤ x * 2147483648 := Nat.mul_le_mul_left _ h5
  generalize 4294967296 ^ n = p at *
  omega
 have h5 : val ((R2 ++ [0, 0]).take (n + 1)) = x * 2 ^ s := by rw [val_take_high (by rw [h1]; exact h4), h1]
 refine ⟨Ext.trans hE hE4, hv.ext hE4, (R2 ++ [0, 0]).take (n + 1), [], ?_, (hsm.append (small_cons (by decide) (small_cons (by decide) small_nil))).take _, (hrow.take _).ext hE4, ?_, small_nil, ?_, ?_, ?_⟩
 ·rw [List.length_take, List.length_append]; simp; omega
 ·simp
 ·rw [List.append_nil]; exact hbo
 ·rw [h5]; simp [val]
 ·rw [h5, hvR, Nat.mul_right_comm]
  apply Nat.mul_lt_mul_of_pos_right _ (Nat.pow_pos (by decide))
  have h6 : 4294967296 ^ m * 4294967296 ^ (d + 1) ≤ y * 4294967296 ^ (d + 1) := Nat.mul_le_mul_right _ h3
  rw [← Nat.pow_add, show m + (d + 1) = n from by omega] at h6
  omega
theorem wrap_quo (t d : Nat) (ht : t < 18446744073709551616) (hd : 0 < d) : IntKind.u64.wrap ((t : Int).tdiv (d : Int)) = ((t / d : Nat) : Int) := by
 rw [IntWalk.u64_quo _ _ ⟨by omega, by omega, by omega⟩]
 exact (Int.natCast_ediv _ _).symm
theorem wrap_quo2 (t d : Nat) (ht : t < 18446744073709551616) : IntKind.u64.wrap ((t : Int) / (d : Int)) = (t : Int) / (d : Int) := by
 have h : t / d ≤ t := Nat.div_le_self t d
 have e : (t : Int) / (d : Int) = ((t / d : Nat) : Int) := (Int.natCast_ediv _ _).symm
 rw [e]
 simp only [IntKind.wrap, IntKind.bits, IntKind.signed]
 generalize t / d = q at *
 simp
 omega
theorem mask32 (p : Nat) (h : p < 18446744073709551616) : bits .and .u64 (p : Int) 4294967295 = ((p % 4294967296 : Nat) : Int) := by
 rw [show (4294967295 : Int) = ((4294967295 : Nat) : Int) from rfl, u64_and_nat _ _ h (by decide), Nat.and_two_pow_sub_one_eq_mod p 32]
theorem tmod_nat (t d : Nat) : (t : Int).tmod (d : Int) = ((t % d : Nat) : Int) := rfl
set_option maxRecDepth 100000 in
set_option maxHeartbeats 1000000 in
theorem long_any (B : Nat) (w : World) (a a2 : Option Addr) (n c n2 c2 : Nat) (x y : Nat) (h : NatS B w a n c (limbs x)) (h2 : NatS B w a2 n2 c2 (limbs y)) (hn : n ≤ 8796093022208) (hn2 : 2 ≤ n2) (hyx : y ≤ x) :
  Calls Tryz.prog 156 #[.slice a n c, .slice a2 n2 c2] w fun e w' => ∃ q r : Value, e = .returned (.tuple #[q, r]) ∧ (∃ a' n' c', q = .slice a' n' c' ∧ NatS w.heap.size w' a' n' c' (limbs (x / y))) ∧ (∃ a' n' c', r = .slice a' n' c' ∧ NatS w.heap.size w' a' n' c' (limbs (x % y))) ∧ Ext w w' := by
 obtain ⟨i0, hi, hz0, hz1, hz2⟩ := info_parts info_u32
 have hl1 : nl x = n := h.len
 have hl2 : nl y = n2 := h2.len
 have hnn : n2 ≤ n := by rw [← hl1, ← hl2]; exact nl_mono hyx
 obtain ⟨b, o, rfl, _, hb1, _⟩ := h.pos (by omega)
 obtain ⟨b2, o2, rfl, _, hb2, hc2, _⟩ := h2.pos (by omega)
 obtain ⟨m, rfl⟩ : ∃ m, n2 = m + 1 := ⟨n2 - 1, by omega⟩
 have hct := hc2 m (by omega)
 have htop := (small_limbs y).get m
 obtain ⟨hne, _⟩ := limbs_top hl2
 have hsh := norm_shift hl2
 have hbt : blen ((limbs y)[m]?.getD 0) ≤ 32 := blen_le_of_lt (by have e : (2 : Nat) ^ 32 = 4294967296 := by decide
                                                                  omega)
 have hbp : 0 < blen ((limbs y)[m]?.getD 0) := by rw [blen_pos (by omega)]; omega
 have hvx : Hid (val (limbs x) = x) := Lib.hid (val_limbs x)
 have hvy : Hid (val (limbs y) = y) := Lib.hid (val_limbs y)
 generalize htt : (limbs y)[m]?.getD 0 = top at *
 clear htt
 generalize hss : 32 - blen top = s at *
 have hs32 : s < 32 := by omega
 have HS := Lib.hid hss
 clear hss
 have HL1 := Lib.hid hl1
 have HL2 := Lib.hid hl2
 clear hl1 hl2 hc2
 go_enter Tryz.func156, Tryz.ntmps156
 go_wp2_with fail
 refine (lz32_any top htop w).mono ?_
 rintro e w' ⟨rfl, rfl⟩
 rw [HS.out]
 go_wp2_with fail
 refine (left_any B w _ (m + 1) c2 _ h2 (by omega) s hs32 y hvy).mono ?_
 rintro e w1 ⟨R, rfl, hown, hsR, hvR, hlR, hE⟩
 have hvl : R.length = m + 1 := by
  rcases hlR with h | ⟨_, h⟩
  ·rw [h, HL2.out]
  ·rw [hvR, HL2.out] at h; omega
 have hRow := row_of_owns hown
 have hE1s := hE.size
 have hb1' : NatS B w1 (some ⟨b, o, none⟩) n c (limbs x) := h.ext (Nat.le_refl _) hE
 rw [hvl, HL2.out]
 have HVR := Lib.hid hvR
 have HVL := Lib.hid hvl
 have HROW := Lib.hid hRow
 clear hown hlR hvl hRow hvR h h2
 go_wp2_with fail
 refine (left_any B w1 _ n c _ hb1' (by omega) s hs32 x hvx).mono ?_
 rintro e w2 ⟨R2, rfl, hown2, hsR2, hvR2, hlR2, hE2⟩
 have hR2 : R2.length + 2 ≤ n + 3 := by have := HL1.out; rcases hlR2 with h | ⟨h, _⟩ <;> omega
 have hR2b : n ≤ R2.length := by have := HL1.out; rcases hlR2 with h | ⟨h, _⟩ <;> omega
 have hE2s := hE2.size
 rw [HL1.out]
 rw [HL1.out] at hown2
 have HOWN2 := Lib.hid hown2
 have HVR2 := Lib.hid hvR2
 clear hlR2 hown2 hvR2 hb1'
 generalize hk2 : R2.length = k2 at *
 have HK2 := Lib.hid hk2
 clear hk2
 obtain ⟨d, hd⟩ : ∃ d, n = m + 1 + d := ⟨n - (m + 1), by omega⟩
 have hmk := fun w => make_words under_nat info_u32 (d + 1) (d + 1) (Nat.le_refl _) (by omega) w
 rw [show (((d + 1 : Nat)) : Int) = (n : Int) - ((m : Int) + 1) + 1 from by omega] at hmk
 have HD := Lib.hid hd
 clear hd
 go_wp2_with (refine wpList_append_fits _ rfl (.tmp 41) (.tmp 42) 23 rfl w1.heap.size 126 i0 1 under_nat hi hz1 w1.heap.size k2 (n + 3) _ rfl (HOWN2.out.alloc _) ⟨w2.heap.size, 0, none⟩ 2 2 [.int .u32 0, .int .u32 0] rfl rfl (two_new _ _ _ _) (by simp [Value.oneCell']) hR2 ?_; intro w3 hown3 hgrow3)
 have hE3 : Ext w w3 := ((Ext.trans hE hE2).alloc (Ext.trans hE hE2).size _).grown hgrow3 (by simp; omega) (fun q e => by cases e; exact hE1s)
 have hrowv : Row w3 w.heap.size 126 R := ((HROW.out.ext hE2).below ((Below.refl w2.heap.size w2).alloc (Nat.le_refl _) (.cells #[.int .u32 0, .int .u32 0] 126)) (by have := HROW.out.lt; omega)).grown hgrow3 (by have := HROW.out.lt; simp; omega)
 have hrowu : Row w3 w1.heap.size 126 (R2 ++ [0, 0]) := row_of_owns (by rw [List.map_append]; exact hown3)
 have hvtop := hrowv.word (i := m) (by rw [HVL.out]; omega)
 have hvnext := hrowv.word (i := m - 1) (by rw [HVL.out]; omega)
 have hm1 : 1 ≤ m := by omega
 generalize htp : R[m]?.getD 0 = tp at *
 generalize hnx : R[m - 1]?.getD 0 = nx at *
 have HTP := Lib.hid htp
 have HNX := Lib.hid hnx
 have HROWV := Lib.hid hrowv
 have HROWU := Lib.hid hrowu
 have HE3 := Lib.hid hE3
 clear htp hnx hrowv hrowu hE3 hown3 hgrow3
 have hvt4 := cell_alloc hvtop (.cells (words (List.replicate (d + 1) 0)) 126)
 have hvn4 := cell_alloc hvnext (.cells (words (List.replicate (d + 1) 0)) 126)
 have hblko := Blk.new w3 126 (words (List.replicate (d + 1) 0))
 have hE4 : Ext w3 (w3.alloc (.cells (words (List.replicate (d + 1) 0)) 126)) := (Below.refl _ _).alloc (Nat.le_refl _) _
 generalize hw4 : w3.alloc (.cells (words (List.replicate (d + 1) 0)) 126) = w4 at *
 clear hw4 hmk
 have HBO := Lib.hid hblko
 have HE4 := Lib.hid hE4
 clear hblko hE4
 have hy0 : 0 < y := by
  cases Nat.eq_zero_or_pos y with
  | inl h => subst h; have := HL2.out; rw [nl_zero] at this; omega
  | inr h => exact h
 have hks := kstart HE3.out HE4.out HROWV.out HROWU.out HBO.out HVR.out HVR2.out hs32 hsR2 (by rw [HK2.out]; exact hR2b) HL1.out HL2.out HD.out hy0
 have HKS := Lib.hid hks
 have htp0 : 0 < tp := by
  have h3 := top_pos hsR (by rw [HVL.out]) (m := m) (by
   rw [HVR.out]
   have h4 := pow_nl_le hy0
   rw [HL2.out, Nat.add_sub_cancel] at h4
   exact Nat.le_trans h4 (Nat.le_mul_of_pos_right _ (Nat.pow_pos (by decide))))
  rwa [HTP.out] at h3
 have htplt : tp < 4294967296 := by rw [← HTP.out]; exact hsR.get _
 have hnxlt : nx < 4294967296 := by rw [← HNX.out]; exact hsR.get _
 clear hks hvtop hvnext hct
 go_quiet (fail)
 clear hvt4 hvn4
 go_wp2_with fail
 go_loopg [14] (d + 1) (fun k i wr => k ≤ d + 1 ∧ (∃ z : Int, i = .int .i64 z ∧ z = (k : Int) - 1) ∧ Hid (KState w wr w.heap.size w1.heap.size w3.heap.size 126 R (x * 2 ^ s) k d n))
 case atStart => exact ⟨Nat.le_refl _, ⟨_, rfl, by have := HD.out; omega⟩, Lib.hid ⟨below_drewN HKS.out.ext _, HKS.out.rowv, HKS.out.ex⟩⟩
 case round =>
  obtain ⟨hjj, ⟨z, rfl, hz⟩, hK⟩ := hrel
  by_cases h0 : gk = 0
  ·subst h0
   obtain rfl : z = -1 := by omega
   clear hz
   obtain ⟨hEw, hrv, u, Q, hul, husm, hur, hQl, hQs, hbo, hX, hlt⟩ := hK.out
   rw [Nat.pow_zero, Nat.one_mul] at hX
   rw [Nat.pow_zero, Nat.mul_one] at hlt
   have hVlt := val_lt hsR
   rw [HVL.out] at hVlt
   have hVV := HVR.out
   have hde := div_end (x := x) (y := y) (s := s) (by rw [hX, hVV]) (by rw [← hVV]; exact hlt)
   have hnd := HD.out
   have hNU : NatS w.heap.size wr (some ⟨w1.heap.size, 0, none⟩) (m + 1) (n + 3) (u.take (m + 1)) := hur.nat hE1s husm (m + 1) (by omega) (by omega) (by omega)
   have hvu : Hid (val (u.take (m + 1)) = val u) := Lib.hid (val_take_high (by omega))
   have hNQ : NatS w.heap.size wr (some ⟨w3.heap.size, 0, none⟩) (d + 1) (d + 1) Q := by
    have := hbo.nat (B := w.heap.size) (by have := HROWU.out.lt; omega) (l := List.replicate 0 0 ++ Q) (by simpa using hQs) (d + 1) (by simp; omega) (Nat.le_refl _) (by omega)
    rw [List.take_of_length_le (by simp; omega)] at this
    simpa using this
   have HDE := Lib.hid hde
   have hcz : ¬ (n + 3 = 0) := by omega
   have hmn3 : (m : Int) + 1 ≤ (n : Int) + 3 := by omega
   clear hul hQl hbo hX hlt hVlt hVV hde hnd hK hur hrv
   go_wp2_with fail
   refine (right_any w.heap.size wr _ (m + 1) (n + 3) _ hNU (by omega) s hs32 (val u) hvu).mono ?_
   rintro e w5 ⟨a5, n5, c5, rfl, h5, hE5⟩
   have HN5 := Lib.hid h5
   have HNQ5 := hNQ.ext (Nat.le_refl _) hE5
   have HE5 := Lib.hid hE5
   clear h5 hE5 hNU hNQ
   go_wp2_with fail
   refine (own_any w.heap.size w5 _ (d + 1) (d + 1) Q HNQ5 (by have := HD.out; omega)).mono ?_
   rintro e w6 ⟨a6, n6, c6, rfl, h6, hE6⟩
   have HN6 := Lib.hid h6
   have HE6 := Lib.hid hE6
   clear h6 hE6 HNQ5
   go_wp2_with fail
   go_ret2
   have hEf : Ext w w6 := Ext.trans (Ext.trans hEw HE5.out) HE6.out
   exact ⟨_, _, rfl, ⟨_, _, _, rfl, by have := HN6.out.mono (Ext.trans hEw HE5.out).size (Kept.refl _ _); rwa [HDE.out.1] at this⟩, ⟨_, _, _, rfl, by have := (HN5.out.mono hEw.size (Kept.refl _ _)).ext (Nat.le_refl _) HE6.out; rwa [HDE.out.2] at this⟩, hEf⟩
  ·obtain ⟨j, rfl⟩ : ∃ j, gk = j + 1 := ⟨gk - 1, by omega⟩
   obtain rfl : z = (j : Int) := by omega
   clear hz
   obtain ⟨hEw, hrv, u, Q, hul, husm, hur, hQl, hQs, hbo, hX, hlt⟩ := hK.out
   have hnd := HD.out
   have hw1 := hur.word (i := j + (m + 1)) (by omega)
   have hw0 := hur.word (i := j + m) (by omega)
   have hw2 := hur.word (i := j + m - 1) (by omega)
   have hjn : j + (m + 1) < n + 1 := by omega
   have ht1 := husm.get (j + (m + 1))
   have ht0 := husm.get (j + m)
   have hu2 := husm.get (j + m - 1)
   have hT := tops_of (n := m + 1) husm hsR (by omega) HVL.out hlt (by rw [Nat.add_sub_cancel]; exact HTP.out) HNX.out rfl rfl rfl htp0
   rw [show j + (m + 1) - 1 = j + m from by omega, show j + (m + 1) - 2 = j + m - 1 from by omega] at hT
   generalize g1 : u[j + (m + 1)]?.getD 0 = t1 at *
   generalize g0 : u[j + m]?.getD 0 = t0 at *
   generalize g2 : u[j + m - 1]?.getD 0 = u2 at *
   have hor := or_join t1 t0 ht1 ht0
   have HT := Lib.hid hT
   have G1 := Lib.hid g1
   have HUL := Lib.hid hul
   have HQL := Lib.hid hQl
   have HX := Lib.hid hX
   have HBO2 := Lib.hid hbo
   have HUR := Lib.hid hur
   clear hnd hT g1 g0 g2 hul hQl hX hbo hur hK
   have htlt : t1 * 4294967296 + t0 < 18446744073709551616 := by omega
   generalize htt : t1 * 4294967296 + t0 = t at *
   have hwq := wrap_quo t tp htlt htp0
   have hwr := tmod_nat t tp
   have hwq2 := wrap_quo2 t tp htlt
   have htz : ¬ tp = 0 := by omega
   clear htt
   go_wp2_with fail
   go_step3
   go_wp2_with fail
   go_quiet (fail)
   go_wp2_with fail
   go_quiet (fail)
   go_wp2_with fail
   go_step3
   have hdiv : (t : Int) / (tp : Int) = ((t / tp : Nat) : Int) := (Int.natCast_ediv _ _).symm
   have hmod : (t : Int) % (tp : Int) = ((t % tp : Nat) : Int) := (Int.natCast_emod _ _).symm
   rw [hdiv, hmod]
   have hq0 := HT.out.start
   have hqr : t / tp * tp + t % tp = t := by rw [Nat.mul_comm]; exact Nat.div_add_mod _ _
   have hr0 : t % tp < 4294967296 := Nat.lt_trans (Nat.mod_lt _ htp0) htplt
   generalize hqq : t / tp = q0 at *
   generalize hrr : t % tp = r0 at *
   have HQ0 := Lib.hid hq0
   have HQR := Lib.hid hqr
   clear hqq hrr hdiv hmod hwq hwr hwq2 hq0 hqr hor hw0 hw1
   generalize hwq : (wr.drewN _).drewN _ = wq
   have hEq : Below wr.heap.size wr wq := by rw [← hwq]; exact below_drewN (below_drewN (Below.refl _ _) _) _
   have hw2q : wq.cell? ⟨w1.heap.size, j + m - 1, none⟩ = some (.int .u32 (u2 : Int)) := by rw [← hwq]; exact hw2
   have hw2q' : wq.cell? ⟨w1.heap.size, j + (m + 1) - 2, none⟩ = some (.int .u32 (u2 : Int)) := by rw [show j + (m + 1) - 2 = j + m - 1 from by omega]; exact hw2q
   have HEQ := Lib.hid hEq
   clear hwq hw2 hEq
   go_upto_block 2 with (fail)
   go_cut [16, 17] from 71 to 227 (fun q r wx => ∃ qq : Nat, q = .int .u64 (qq : Int) ∧ qq < 4294967296 ∧ Hid (qq * val R < val u / 4294967296 ^ j + val R ∧ val u / 4294967296 ^ j / val R ≤ qq) ∧ Hid (Ext wr wx))
   case first =>
    go_wp2_with fail
    go_loopg [16, 17] q0 (fun k q r wx => ∃ rr : Nat, q = .int .u64 (k : Int) ∧ r = .int .u64 (rr : Int) ∧ rr < 4294967296 ∧ Hid (val u / 4294967296 ^ j / val R ≤ k ∧ k * tp + rr = t) ∧ wx = wq)
    case atStart => exact ⟨r0, rfl, rfl, hr0, Lib.hid ⟨HQ0.out, HQR.out⟩, rfl⟩
    case round =>
     obtain ⟨rr, rfl, rfl, hrr, hqr, rfl⟩ := hrel
     by_cases hbig : 4294967296 ≤ gk
     ·have hdec := Lib.hid (HT.out.dec hqr.out.2 (Or.inl hbig))
      have hb1 : decide ((4294967296 : Int) ≤ (gk : Int)) = true := by simp; omega
      have hgp : 0 < gk := Nat.lt_of_le_of_lt (Nat.zero_le _) hdec.out
      have hq2 : (gk - 1) * tp + (rr + tp) = t := by
       rw [← hqr.out.2]
       obtain ⟨g, rfl⟩ : ∃ g, gk = g + 1 := ⟨gk - 1, by omega⟩
       rw [Nat.add_sub_cancel, Nat.add_mul, Nat.one_mul]; omega
      have HQ2 := Lib.hid hq2
      have hgl : gk < 18446744073709551616 := by
       have h1 : gk * 1 ≤ gk * tp := Nat.mul_le_mul_left _ htp0
       have := hqr.out.2
       omega
      clear hq2
      by_cases hrb : 4294967296 ≤ rr + tp
      ·have hb2 : decide ((4294967296 : Int) ≤ (rr : Int) + (tp : Int)) = true := by simp; omega
       have hfar := Lib.hid (HT.out.far HQ2.out hrb)
       have hfin := Lib.hid (HT.out.fin HQ2.out hfar.out.1 hfar.out.2)
       go_wp2_with fail
       go_meet
       exact ⟨gk - 1, by rw [show ((gk - 1 : Nat) : Int) = (gk : Int) - 1 from by omega], hfar.out.1, Lib.hid ⟨hfin.out, Nat.le_sub_one_of_lt hdec.out⟩, HEQ⟩
      ·have hb2 : decide ((4294967296 : Int) ≤ (rr : Int) + (tp : Int)) = false := by simp; omega
       go_wp2_with fail
       go_roundg (gk - 1)
       case measure => omega
       case rel => exact ⟨rr + tp, by rw [show ((gk - 1 : Nat) : Int) = (gk : Int) - 1 from by omega], by go_num, by omega, Lib.hid ⟨Nat.le_sub_one_of_lt hdec.out, HQ2.out⟩, rfl⟩
     ·have hb1 : decide ((4294967296 : Int) ≤ (gk : Int)) = false := by simp; omega
      have hor2 := or_join rr u2 hrr hu2
      rw [show ((rr * 4294967296 + u2 : Nat) : Int) = (rr : Int) * 4294967296 + (u2 : Int) from by omega] at hor2
      have hmn : ((gk * nx : Nat) : Int) = (gk : Int) * (nx : Int) := Int.natCast_mul _ _
      have hmb : gk * nx ≤ 4294967295 * 4294967295 := Nat.mul_le_mul (by omega) (by omega)
      have hmul0 : 0 ≤ (gk : Int) * (nx : Int) := by omega
      have hmul1 : (gk : Int) * (nx : Int) < 18446744073709551616 := by omega
      by_cases hcm : rr * 4294967296 + u2 < gk * nx
      ·have hb3 : decide ((rr : Int) * 4294967296 + (u2 : Int) < (gk : Int) * (nx : Int)) = true := by rw [decide_eq_true_iff]; omega
       have hdec := Lib.hid (HT.out.dec hqr.out.2 (Or.inr hcm))
       clear hmn hmb
       have hgp : 0 < gk := Nat.lt_of_le_of_lt (Nat.zero_le _) hdec.out
       have hq2 : (gk - 1) * tp + (rr + tp) = t := by
        rw [← hqr.out.2]
        obtain ⟨g, rfl⟩ : ∃ g, gk = g + 1 := ⟨gk - 1, by omega⟩
        rw [Nat.add_sub_cancel, Nat.add_mul, Nat.one_mul]; omega
       have HQ2 := Lib.hid hq2
       have hgl : gk < 18446744073709551616 := by
        have h1 : gk * 1 ≤ gk * tp := Nat.mul_le_mul_left _ htp0
        have := hqr.out.2
        omega
       clear hq2
       by_cases hrb : 4294967296 ≤ rr + tp
       ·have hb2 : decide ((4294967296 : Int) ≤ (rr : Int) + (tp : Int)) = true := by simp; omega
        have hfar := Lib.hid (HT.out.far HQ2.out hrb)
        have hfin := Lib.hid (HT.out.fin HQ2.out hfar.out.1 hfar.out.2)
        go_wp2_with fail
        go_meet
        exact ⟨gk - 1, by rw [show ((gk - 1 : Nat) : Int) = (gk : Int) - 1 from by omega], hfar.out.1, Lib.hid ⟨hfin.out, Nat.le_sub_one_of_lt hdec.out⟩, HEQ⟩
       ·have hb2 : decide ((4294967296 : Int) ≤ (rr : Int) + (tp : Int)) = false := by simp; omega
        go_wp2_with fail
        go_roundg (gk - 1)
        case measure => omega
        case rel => exact ⟨rr + tp, by rw [show ((gk - 1 : Nat) : Int) = (gk : Int) - 1 from by omega], by go_num, by omega, Lib.hid ⟨Nat.le_sub_one_of_lt hdec.out, HQ2.out⟩, rfl⟩
      ·have hb3 : decide ((rr : Int) * 4294967296 + (u2 : Int) < (gk : Int) * (nx : Int)) = false := by rw [decide_eq_false_iff_not]; omega
       have hfin := Lib.hid (HT.out.fin hqr.out.2 (by omega) (by omega))
       clear hmn hmb
       go_wp2_with fail
       go_meet
       exact ⟨gk, rfl, by omega, Lib.hid ⟨hfin.out, hqr.out.1⟩, HEQ⟩
   case rest =>
    obtain ⟨qq, rfl, hqq, hfin, hExt⟩ := hcut
    have hms : MState w wc w.heap.size w1.heap.size w3.heap.size 126 R u (words (List.replicate (j + 1) 0 ++ Q)) qq j m n 0 0 0 := ⟨Ext.trans hEw hExt.out, hrv.ext hExt.out, HBO2.out.ext hExt.out, u, HUL.out, husm, HUR.out.ext hExt.out, by simp [val], fun t ht => high_of_val (k := j + (m + 1) + 1) (Nat.lt_trans hlt (by
     have := val_lt hsR
     rw [HVL.out] at this
     rw [show j + (m + 1) + 1 = (m + 1) + (j + 1) from by omega, Nat.pow_add _ (m + 1)]
     exact Nat.mul_lt_mul_of_pos_right this (show 0 < 4294967296 ^ (j + 1) from Nat.pow_pos (by decide)))) t ht⟩
    have HMS := Lib.hid hms
    clear hms hw2q hw2q'
    go_wp2_with fail
    go_loopg [18, 19, 125] (m + 1) (fun k sb sc i wx => ∃ (i0 ca bw : Nat), k + i0 = m + 1 ∧ i = .int .i64 (i0 : Int) ∧ sc = .int .u64 (ca : Int) ∧ sb = .int .u64 (bw : Int) ∧ ca < 4294967296 ∧ bw ≤ 1 ∧ Hid (MState w wx w.heap.size w1.heap.size w3.heap.size 126 R u (words (List.replicate (j + 1) 0 ++ Q)) qq j m n i0 ca bw))
    case atStart => exact ⟨0, 0, 0, by omega, rfl, rfl, rfl, by omega, by omega, HMS⟩
    case round =>
     obtain ⟨i0, ca, bw, hki, rfl, rfl, rfl, hca, hbw, hM⟩ := hrel
     by_cases hi0 : i0 < m + 1
     ·obtain ⟨hEx, hrvx, hbox, u', hu'l, hu's, hu'r, hu'v, hu'h⟩ := hM.out
      have hcv := hrvx.word (i := i0) (by rw [HVL.out]; omega)
      have hvi := hsR.get i0
      have hcu := hu'r.word (i := i0 + j) (by have := HD.out; omega)
      have hcf := hu'r.free (i0 + j)
      have hui := hu's.get (i0 + j)
      generalize gv : R[i0]?.getD 0 = vi at *
      generalize gu : u'[i0 + j]?.getD 0 = ui at *
      have GV := Lib.hid gv
      have GU := Lib.hid gu
      have hpb := carry_lt (o := 0) hqq hvi (by omega) hca
      rw [Nat.add_zero] at hpb
      obtain ⟨P, hP⟩ : ∃ P, qq * vi = P := ⟨_, rfl⟩
      have hcast : (qq : Int) * (vi : Int) = (P : Int) := by rw [← hP]; exact (Int.natCast_mul _ _).symm
      rw [hP] at hpb
      have hand := mask32 (P + ca) hpb
      rw [show ((P + ca : Nat) : Int) = (P : Int) + (ca : Int) from by omega] at hand
      have HP := Lib.hid hP
      have hjn2 : i0 + j < n + 1 := by have := HD.out; omega
      have hbul := hu'r.lt
      have HKI := Lib.hid hki
      have HUL2 := Lib.hid hu'l
      have HUH := Lib.hid hu'h
      have HUV := Lib.hid hu'v
      clear gv gu hM hu'v hki hu'l hu'h hP
      go_wp2_with fail
      have hpl := Nat.mod_lt (P + ca) (show 0 < 4294967296 by decide)
      have hpe : ((P : Int) + (ca : Int)) % 4294967296 = (((P + ca) % 4294967296 : Nat) : Int) := by omega
      have hpd : ((P : Int) + (ca : Int)) / 4294967296 = (((P + ca) / 4294967296 : Nat) : Int) := by omega
      go_roundg (gk - 1)
      case measure => have := HKI.out; omega
      case rel =>
       refine ⟨i0 + 1, (P + ca) / 4294967296, subNxt bw ui ((P + ca) % 4294967296), by have := HKI.out; omega, by go_num, by rw [hpd], by rw [hpe, wrap_sub_hi ui _ bw hui hpl hbw], by omega, subNxt_le _ _ _, Lib.hid ?_⟩
       rw [hpe, wrap_sub_lo ui _ bw hui hpl hbw]
       have hij : i0 + j = j + i0 := by omega
       refine ⟨hEx.setCell (by show w.heap.size ≤ w1.heap.size; exact hE1s) _, hrvx.far (by have := hE.size; have := HROW.out.lt; omega), ?_, u'.set (i0 + j) (subOut bw ui ((P + ca) % 4294967296)), by rw [List.length_set, HUL2.out], hu's.set _ (subOut_lt _ _ _), hu'r.set (by have := HUL2.out; omega) _, ?_, fun t ht => ?_⟩
       ·exact (Below.heap_setCell _ _ _ _ (by show w3.heap.size ≠ w1.heap.size; have := HROWU.out.lt; omega)).trans hbox
       ·rw [hij, ← HP.out]
        rw [← HP.out] at hpl
        refine mulsub_round (ui := ui) (vi := vi) (by have := HUL2.out; omega) HUV.out GV.out (by rw [← hij]; exact GU.out) ?_
        unfold subOut subNxt
        exact sub_limb _ _ _ _ hui hpl hbw
       ·rw [get_set_ne (by omega)]
        exact HUH.out t ht
     ·obtain rfl : i0 = m + 1 := by omega
      obtain ⟨hEx, hrvx, hbox, u', hu'l, hu's, hu'r, hu'v, hu'h⟩ := hM.out
      rw [List.take_of_length_le (by rw [HVL.out]; omega)] at hu'v
      have hcu := hu'r.word (i := j + (m + 1)) (by have := HD.out; omega)
      have hcf := hu'r.free (j + (m + 1))
      have hui := hu's.get (j + (m + 1))
      generalize gu : u'[j + (m + 1)]?.getD 0 = ui at *
      have hbul := hu'r.lt
      have hbol := hbox.lt
      have hne13 : ¬ w1.heap.size = w3.heap.size := by have := HROWU.out.lt; omega
      have hne31 : ¬ w3.heap.size = w1.heap.size := fun h => hne13 h.symm
      have hco := hbox.cell (i := j) (words_get (by simp; omega))
      have hcof := hbox.free j
      have hlo := wrap_sub_lo ui ca bw hui hca hbw
      have hhi := wrap_sub_hi ui ca bw hui hca hbw
      have hend := Lib.hid (mulsub_end (by have := HD.out; omega) hu'v gu (by unfold subOut subNxt; exact sub_limb _ _ _ _ hui hca hbw : subOut bw ui ca + ca + bw = ui + 4294967296 * subNxt bw ui ca))
      have HUL2 := Lib.hid hu'l
      have HUH := Lib.hid hu'h
      clear gu hM hu'v hki hu'l hu'h
      by_cases hsg : ui < ca + bw
      ·have hs1 : subNxt bw ui ca = 1 := by unfold subNxt; rw [if_pos hsg]
       rw [hs1] at hhi
       have hhi2 : IntKind.u64.wrap (IntKind.u64.wrap ((ui : Int) - (ca : Int)) - (bw : Int)) / 9223372036854775808 = 1 := hhi
       have hv2 := hend.out
       rw [hs1, Nat.mul_one] at hv2
       have hu1s : Small (u'.set (j + (m + 1)) (subOut bw ui ca)) := hu's.set _ (subOut_lt _ _ _)
       have hu1h : ∀ t, j + (m + 1) < t → (u'.set (j + (m + 1)) (subOut bw ui ca))[t]?.getD 0 = 0 := fun t ht => by rw [get_set_ne (by omega)]; exact HUH.out t ht
       have hu1l : (u'.set (j + (m + 1)) (subOut bw ui ca)).length = n + 1 := by rw [List.length_set, HUL2.out]
       have hv1 : val (u'.set (j + (m + 1)) (subOut bw ui ca)) < 4294967296 ^ (j + (m + 1) + 1) := val_high hu1s (fun t ht => hu1h t (by omega))
       have hq0 : 0 < qq := by
        cases Nat.eq_zero_or_pos qq with
        | inl h => rw [h, Nat.zero_mul, Nat.mul_zero, Nat.add_zero] at hv2; omega
        | inr h => exact h
       have hbs : BState w (wr.setCell ⟨w1.heap.size, j + (m + 1), none⟩ (.int .u32 ((subOut bw ui ca : Nat) : Int))) w.heap.size w1.heap.size w3.heap.size 126 R (u'.set (j + (m + 1)) (subOut bw ui ca)) (words (List.replicate (j + 1) 0 ++ Q)) j m n 0 0 :=
        ⟨hEx.setCell (by show w.heap.size ≤ w1.heap.size; exact hE1s) _, hrvx.far (by have := hE.size; have := HROW.out.lt; omega), (Below.heap_setCell _ _ _ _ hne31).trans hbox, _, hu1l, hu1s, hu'r.set (by have := HUL2.out; have := HD.out; omega) _, by simp [val], hu1h⟩
       rw [← hlo] at hbs
       have HBS := Lib.hid hbs
       have HV1 := Lib.hid hv1
       have HV2 := Lib.hid hv2
       generalize hu1 : u'.set (j + (m + 1)) (subOut bw ui ca) = u1 at *
       clear hu1 hs1 hhi hbs hv1 hv2 hlo hu1s hu1h hu1l hco hcof
       go_wp2_with fail
       go_loopg [24, 185] (m + 1) (fun k sc i wx => ∃ (i0 cc : Nat), k + i0 = m + 1 ∧ i = .int .i64 (i0 : Int) ∧ sc = .int .u64 (cc : Int) ∧ cc ≤ 1 ∧ Hid (BState w wx w.heap.size w1.heap.size w3.heap.size 126 R u1 (words (List.replicate (j + 1) 0 ++ Q)) j m n i0 cc))
       case atStart => exact ⟨0, 0, by omega, rfl, rfl, by omega, HBS⟩
       case round =>
        clear hcu hcf hbul hrvx hbox hEx hbol hu'r
        obtain ⟨i0, cc, hki, rfl, rfl, hcc, hM⟩ := hrel
        obtain ⟨hEx, hrvx, hbox, u2', hu'l, hu's, hu'r, hu'v, hu'h⟩ := hM.out
        by_cases hi0 : i0 < m + 1
        ·have hcv := hrvx.word (i := i0) (by rw [HVL.out]; omega)
         have hvi := hsR.get i0
         have hcu := hu'r.word (i := i0 + j) (by have := HD.out; omega)
         have hcf := hu'r.free (i0 + j)
         have hui := hu's.get (i0 + j)
         generalize gv : R[i0]?.getD 0 = vi at *
         generalize gu : u2'[i0 + j]?.getD 0 = uj at *
         have GV := Lib.hid gv
         have GU := Lib.hid gu
         have hw1 : IntKind.u64.wrap ((uj : Int) + (vi : Int)) = (uj : Int) + (vi : Int) := by rw [wrap_u64_eq]; omega
         have hw2 : IntKind.u64.wrap ((uj : Int) + (vi : Int) + (cc : Int)) = (uj : Int) + (vi : Int) + (cc : Int) := by rw [wrap_u64_eq]; omega
         have hjn2 : i0 + j < n + 1 := by have := HD.out; omega
         have hbul := hu'r.lt
         have HKI := Lib.hid hki
         have HUL3 := Lib.hid hu'l
         have HUH3 := Lib.hid hu'h
         have HUV := Lib.hid hu'v
         clear gv gu hM hu'v hki hu'l hu'h
         go_wp2_with fail
         go_quiet (fail)
         go_wp2_with fail
         have hse : ((uj : Int) + (vi : Int) + (cc : Int)) % 4294967296 = (((uj + vi + cc) % 4294967296 : Nat) : Int) := by omega
         have hsd : ((uj : Int) + (vi : Int) + (cc : Int)) / 4294967296 = (((uj + vi + cc) / 4294967296 : Nat) : Int) := by omega
         go_roundg (gk - 1)
         case measure => have := HKI.out; omega
         case rel =>
          refine ⟨i0 + 1, (uj + vi + cc) / 4294967296, by have := HKI.out; omega, by go_num, by rw [hsd], by omega, Lib.hid ?_⟩
          rw [hse]
          have hij : i0 + j = j + i0 := by omega
          refine ⟨(below_drewN hEx _).setCell (by show w.heap.size ≤ w1.heap.size; exact hE1s) _, Row.far (w := wr.drewN _) hrvx (by have := hE.size; have := HROW.out.lt; omega), ?_, u2'.set (i0 + j) ((uj + vi + cc) % 4294967296), by rw [List.length_set, HUL3.out], hu's.set _ (Nat.mod_lt _ (by decide)), Row.set (w := wr.drewN _) hu'r (by have := HUL3.out; omega) _, ?_, fun t ht => ?_⟩
          ·exact (Below.heap_setCell (wr.drewN _) _ _ _ (by show w3.heap.size ≠ w1.heap.size; exact hne31)).trans hbox
          ·rw [hij]
           exact back_round (by have := HUL3.out; omega) HUV.out GV.out (by rw [← hij]; exact GU.out)
          ·rw [get_set_ne (by omega)]
           exact HUH3.out t ht
        ·obtain rfl : i0 = m + 1 := by omega
         rw [List.take_of_length_le (by rw [HVL.out]; omega)] at hu'v
         have hcu := hu'r.word (i := j + (m + 1)) (by have := HD.out; omega)
         have hcf := hu'r.free (j + (m + 1))
         have hui := hu's.get (j + (m + 1))
         generalize gu : u2'[j + (m + 1)]?.getD 0 = uj at *
         have hbul := hu'r.lt
         have hbol := hbox.lt
         have hco := hbox.cell (i := j) (words_get (by simp; omega))
         have hcof := hbox.free j
         have hend2 := Lib.hid (back_end (by have := HD.out; omega) hu'v gu)
         have HUL3 := Lib.hid hu'l
         have HUH3 := Lib.hid hu'h
         clear gu hM hu'v hki hu'l hu'h
         go_wp2_with fail
         rw [Exit.noGoto_normal]
         go_wp2_with fail
         go_roundg j
         case measure => omega
         case rel =>
          refine ⟨by omega, ⟨_, rfl, rfl⟩, Lib.hid ?_⟩
          have hy1 : val (u2'.set (j + (m + 1)) ((uj + cc) % 4294967296)) < 4294967296 ^ (j + (m + 1) + 1) := val_high (hu's.set _ (Nat.mod_lt _ (by decide))) (fun t ht => by rw [get_set_ne (by omega)]; exact HUH3.out t (by omega))
          obtain ⟨_, hfv, hfl⟩ := fin_yes (Nat.pow_pos (by decide)) HT.out.v0 hfin.out.1 HV2.out HV1.out hy1 hend2.out (by omega)
          have e1 : ((uj : Int) + (cc : Int)) % 4294967296 = (((uj + cc) % 4294967296 : Nat) : Int) := by omega
          have e2 : (qq : Int) - 1 = ((qq - 1 : Nat) : Int) := by omega
          rw [e1, e2]
          exact kround (hEx.setCell (by show w.heap.size ≤ w1.heap.size; exact hE1s) _) (hrvx.far (by have := hE.size; have := HROW.out.lt; omega)) ((Below.heap_setCell _ _ _ _ hne31).trans hbox) (hu'r.set (by have := HUL3.out; have := HD.out; omega) _) (by rw [List.length_set, HUL3.out]) (hu's.set _ (Nat.mod_lt _ (by decide))) hne31 (by have := hE.size; have := HROW.out.lt; have := HROWU.out.lt; omega) (by have := HROWU.out.lt; omega) (by omega) HQL.out hQs HX.out hfv hfl
      ·have hs1 : subNxt bw ui ca = 0 := by unfold subNxt; rw [if_neg hsg]
       rw [hs1] at hhi
       have hhi2 : IntKind.u64.wrap (IntKind.u64.wrap ((ui : Int) - (ca : Int)) - (bw : Int)) / 9223372036854775808 = 0 := hhi
       have HS1 := Lib.hid hs1
       clear hs1 hhi
       go_wp2_with fail
       rw [Exit.noGoto_normal]
       go_wp2_with fail
       go_roundg j
       case measure => omega
       case rel =>
        refine ⟨by omega, ⟨_, rfl, rfl⟩, Lib.hid ?_⟩
        rw [← subOut_eq hui (by omega)]
        have hv2 := hend.out
        rw [HS1.out, Nat.mul_zero, Nat.add_zero] at hv2
        exact kround (hEx.setCell (by show w.heap.size ≤ w1.heap.size; exact hE1s) _) (hrvx.far (by have := hE.size; have := HROW.out.lt; omega)) ((Below.heap_setCell _ _ _ _ hne31).trans hbox) (hu'r.set (by have := HUL2.out; have := HD.out; omega) _) (by rw [List.length_set, HUL2.out]) (hu's.set _ (subOut_lt _ _ _)) hne31 (by have := hE.size; have := HROW.out.lt; have := HROWU.out.lt; omega) (by have := HROWU.out.lt; omega) hqq HQL.out hQs HX.out hv2 (fin_no (Nat.pow_pos (by decide)) HT.out.v0 hfin.out.2 hv2)
end Go.Proofs.YtbhenelehhiakaaGreat
namespace Go.Proofs.YtbhenelehhiakaaGreat
open Go.RowKit
def RDiv (w : World) (q r : Nat) (e : Ending) (w' : World) : Prop := ∃ a n c a2 n2 c2, e = .returned (.tuple #[.slice a n c, .slice a2 n2 c2, .int .i64 0]) ∧ NatS w.heap.size w' a n c (limbs q) ∧ NatS w.heap.size w' a2 n2 c2 (limbs r) ∧ Ext w w'
theorem RDiv.intro {w w' : World} {q r n c n2 c2 : Nat} {a a2 : Option Addr} (h : NatS w.heap.size w' a n c (limbs q)) (h2 : NatS w.heap.size w' a2 n2 c2 (limbs r)) (hE : Ext w w') : RDiv w q r (.returned (.tuple #[.slice a n c, .slice a2 n2 c2, .int .i64 0])) w' := ⟨a, n, c, a2, n2, c2, rfl, h, h2, hE⟩
theorem one_limb {y : Nat} (h : nl y = 1) : (limbs y)[0]?.getD 0 = y ∧ 0 < y ∧ y < 4294967296 := by
 have h0 : 0 < y := by
  cases Nat.eq_zero_or_pos y with
  | inl h0 => subst h0; rw [nl_zero] at h; omega
  | inr h => exact h
 have h1 := lt_pow_nl y
 rw [h, Nat.pow_one] at h1
 rw [limbs_pos h0]
 exact ⟨by simp; omega, h0, h1⟩
set_option maxRecDepth 100000 in
set_option maxHeartbeats 1000000 in
theorem natDiv_aux (B : Nat) (w : World) (a a2 : Option Addr) (n c n2 c2 : Nat) (l l2 : Nt) (h : NatS B w a n c l) (h2 : NatS B w a2 n2 c2 l2) (hn : n ≤ 8796093022208) (x y : Nat) (hx : Hid (val l = x)) (hy : Hid (val l2 = y)) (hy0 : 0 < y) :
  Calls Tryz.prog 137 #[.slice a n c, .slice a2 n2 c2] w (RDiv w (x / y) (x % y)) := by
 go_enter Tryz.func137, Tryz.ntmps137
 go_wp2_with fail
 refine (trim_any B _ a n c l h).mono ?_
 rintro e w1 ⟨k, rfl, hN, rfl⟩
 go_wp2_with fail
 refine (trim_any B _ a2 n2 c2 l2 h2).mono ?_
 rintro e w1 ⟨k2, rfl, hN2, rfl⟩
 have hkn : k ≤ n := by have := hN.len; have := nl_val h.small; have := h.len; rw [length_limbs] at *; omega
 rw [hx.out] at hN
 rw [hy.out] at hN2
 clear h h2 hx hy
 have hk20 : ((k2 : Int) == 0) = false := by
  have := hN2.len
  have := nl_pos hy0
  rw [length_limbs] at *
  simp; omega
 have hvx : Hid (val (limbs x) = x) := Lib.hid (val_limbs x)
 have hvy : Hid (val (limbs y) = y) := Lib.hid (val_limbs y)
 go_wp2_with fail
 refine (cmp_aux B w a a2 k c k2 c2 _ _ hN hN2 x y hvx hvy).mono ?_
 rintro e w1 ⟨rfl, hE1⟩
 have hN' := hN.ext (Nat.le_refl _) hE1
 have hN2' := hN2.ext (Nat.le_refl _) hE1
 have hk1 : k = nl x := hN.len.symm
 have hk2 : k2 = nl y := hN2.len.symm
 have HK := Lib.hid hk1
 have HK2 := Lib.hid hk2
 clear hN hN2 hk1 hk2
 by_cases hlt : x < y
 ·rw [cmpI_lt hlt]
  go_wp2_with fail
  refine (own_any B w1 a k c _ hN' (by omega)).mono ?_
  rintro e w2 ⟨a3, n3, c3, rfl, h3, hE3⟩
  rw [hvx.out] at h3
  have HF : Hid (RDiv w (x / y) (x % y) (.returned (.tuple #[.slice none 0 0, .slice a3 n3 c3, .int .i64 0])) w2) := Lib.hid (RDiv.intro (by rw [Nat.div_eq_of_lt hlt]; exact natS_nil _ _) (by rw [Nat.mod_eq_of_lt hlt]; exact h3.mono hE1.size (Kept.refl _ _)) (Ext.trans hE1 hE3))
  clear h3 hE3 hN' hN2'
  go_wp2_with fail
  go_ret3
  exact HF.out
 ·have hc : decide (cmpI x y < 0) = false := by
   rw [decide_eq_false_iff_not]; unfold cmpI; rw [if_neg hlt]; split <;> omega
  generalize cmpI x y = z at *
  by_cases h1 : k2 = 1
  ·subst h1
   obtain ⟨hy1, _, hy3⟩ := one_limb HK2.out.symm
   obtain ⟨b2, o2, rfl, _, hb2, hc2, _⟩ := NatS.pos hN2' (by omega)
   have hcy := hc2 0 (by omega)
   rw [hy1] at hcy
   simp only [Nat.add_zero] at hcy
   clear hc2 hN2' hy1
   go_wp2_with fail
   refine (short_any B w1 a k c _ hN' (by omega) y hy0 hy3).mono ?_
   rintro e w2 ⟨a3, n3, c3, rfl, h3, hE3⟩
   rw [hvx.out] at h3
   rw [hvx.out]
   have HN3 := Lib.hid h3
   have hmlt : x % y < 18446744073709551616 := by have := Nat.mod_lt x hy0; omega
   have HE3 := Lib.hid hE3
   have hsz := hE3.size
   generalize hmm : x % y = mm at *
   clear h3 hE3 hN'
   go_wp2_with fail
   refine (natOf_any mm w2 hmlt).mono ?_
   rintro e w3 ⟨a4, n4, c4, rfl, h4, hE4⟩
   have HF : Hid (RDiv w (x / y) mm (.returned (.tuple #[.slice a3 n3 c3, .slice a4 n4 c4, .int .i64 0])) w3) := Lib.hid (RDiv.intro ((HN3.out.mono hE1.size (Kept.refl _ _)).ext (Nat.le_refl _) hE4) (h4.mono (Ext.trans hE1 HE3.out).size (Kept.refl _ _)) (Ext.trans (Ext.trans hE1 HE3.out) hE4))
   clear h4 hE4
   go_wp2_with fail
   go_ret3
   exact HF.out
  ·have hk21 : ((k2 : Int) == 1) = false := by simp; omega
   have hk2p : 2 ≤ k2 := by have := HK2.out; have := nl_pos hy0; omega
   go_wp2_with fail
   refine (long_any B w1 a a2 k c k2 c2 x y hN' hN2' (by omega) hk2p (by omega)).mono ?_
   rintro e w2 ⟨q, r, rfl, ⟨a3, n3, c3, rfl, h3⟩, ⟨a4, n4, c4, rfl, h4⟩, hE3⟩
   have HF := Lib.hid (RDiv.intro (h3.mono hE1.size (Kept.refl _ _)) (h4.mono hE1.size (Kept.refl _ _)) (Ext.trans hE1 hE3))
   clear h3 h4 hE3 hN' hN2'
   go_wp2_with fail
   go_ret3
   exact HF.out
set_option maxRecDepth 100000 in
set_option maxHeartbeats 1000000 in
theorem natGcd_aux (B : Nat) (w : World) (a a2 : Option Addr) (n c n2 c2 : Nat) (l l2 : Nt) (h : NatS B w a n c l) (h2 : NatS B w a2 n2 c2 l2) (hn : n ≤ 8796093022208) (hn2 : n2 ≤ 8796093022208) (x y : Nat) (hx : Hid (val l = x)) (hy : Hid (val l2 = y)) :
  Calls Tryz.prog 154 #[.slice a n c, .slice a2 n2 c2] w (RNat w (Nat.gcd x y)) := by
 go_enter Tryz.func154, Tryz.ntmps154
 go_wp2_with fail
 refine (own_any B w a n c l h (by omega)).mono ?_
 rintro e w1 ⟨a3, n3, c3, rfl, h3, hE3⟩
 have h2' := h2.ext (Nat.le_refl _) hE3
 rw [hx.out] at h3
 have hlx : nl x ≤ n := by rw [← hx.out, ← h.len]; exact nl_val h.small
 have hly : nl y ≤ n2 := by rw [← hy.out, ← h2.len]; exact nl_val h2.small
 clear h h2
 go_wp2_with fail
 refine (own_any B w1 a2 n2 c2 l2 h2' (by omega)).mono ?_
 rintro e w2 ⟨a4, n4, c4, rfl, h4, hE4⟩
 rw [hy.out] at h4
 have H3 := Lib.hid (h3.ext (Nat.zero_le _) hE4)
 have H4 := Lib.hid (h4.mono (Nat.zero_le _) (Kept.refl _ _))
 have HE := Lib.hid (Ext.trans hE3 hE4)
 clear h3 h4 h2' hE3 hE4 hx hy
 go_wp2_with fail
 go_loopg [0, 1] y (fun k va vb wr => ∃ (xx n3 c3 n4 c4 : Nat) (a3 a4 : Option Addr), va = .slice a3 n3 c3 ∧ vb = .slice a4 n4 c4 ∧ nl xx ≤ 8796093022208 ∧ nl k ≤ 8796093022208 ∧ Hid (NatS 0 wr a3 n3 c3 (limbs xx) ∧ NatS 0 wr a4 n4 c4 (limbs k) ∧ Nat.gcd xx k = Nat.gcd x y) ∧ Hid (Ext w wr))
 case atStart => exact ⟨x, n3, c3, n4, c4, a3, a4, rfl, rfl, by omega, by omega, Lib.hid ⟨H3.out, H4.out, rfl⟩, HE⟩
 case round =>
  clear H3 H4 HE
  obtain ⟨xx, n3, c3, n4, c4, a3, a4, rfl, rfl, hlx, hly, hN, hE⟩ := hrel
  have hl3 := hN.out.1.len
  have hl4 := hN.out.2.1.len
  rw [length_limbs] at hl3 hl4
  by_cases h0 : gk = 0
  ·subst h0
   obtain rfl : n4 = 0 := by rw [nl_zero] at hl4; omega
   have hg := hN.out.2.2
   rw [Nat.gcd_zero_right] at hg
   have HG := Lib.hid hg
   have hN3 := hN.out.1
   clear hl3 hl4 hg
   go_wp2_with fail
   refine (own_any 0 wr a3 n3 c3 _ hN3 (by have := hN3.len; rw [length_limbs] at this; omega)).mono ?_
   rintro e w5 ⟨a5, n5, c5, rfl, h5, hE5⟩
   rw [val_limbs, HG.out] at h5
   have HF := Lib.hid (RNat.intro (h5.mono hE.out.size (Kept.refl _ _)) (Ext.trans hE.out hE5))
   clear h5 hE5 hN3
   go_wp2_with fail
   go_ret
   exact HF.out
  ·have hn40 : (0 : Int) < (n4 : Int) := by have := nl_pos (Nat.pos_of_ne_zero h0); omega
   have hg := hN.out.2.2
   have HG := Lib.hid hg
   have hN3 := hN.out.1
   have hN4 := hN.out.2.1
   have hn3 : n3 ≤ 8796093022208 := by omega
   clear hl3 hl4 hg
   go_wp2_with fail
   refine (natDiv_aux 0 wr a3 a4 n3 c3 n4 c4 _ _ hN3 hN4 hn3 xx gk (Lib.hid (val_limbs _)) (Lib.hid (val_limbs _)) (by omega)).mono ?_
   rintro e w5 ⟨a5, n5, c5, a6, n6, c6, rfl, h5, h6, hE5⟩
   have H6 := Lib.hid (h6.mono (Nat.zero_le _) (Kept.refl _ _))
   have H4 := Lib.hid (hN4.ext (Nat.le_refl _) hE5)
   have HE5 := Lib.hid (Ext.trans hE.out hE5)
   have hml : nl (xx % gk) ≤ 8796093022208 := Nat.le_trans (nl_mono (Nat.le_of_lt (Nat.mod_lt _ (by omega)))) hly
   clear h5 h6 hE5 hN3 hN4
   go_wp2_with fail
   go_roundg (xx % gk)
   case measure => exact Nat.mod_lt _ (by omega)
   case rel => exact ⟨gk, n4, c4, n6, c6, a4, a6, rfl, rfl, hly, hml, Lib.hid ⟨H4.out, H6.out, by rw [← HG.out, Nat.gcd_comm xx gk, Nat.gcd_rec gk xx, Nat.gcd_comm]⟩, HE5⟩
end Go.Proofs.YtbhenelehhiakaaGreat
namespace Go.Proofs.YtbhenelehhiakaaGreat
theorem val_div_step {l : List Nat} (hl : Small l) (i : Nat) : val l / 4294967296 ^ i = l[i]?.getD 0 + 4294967296 * (val l / 4294967296 ^ (i + 1)) := by
 rw [← val_drop_div hl, ← val_drop_div hl]; exact val_drop' l i
theorem val_div_len {l : List Nat} (hl : Small l) {n : Nat} (h : l.length ≤ n) : val l / 4294967296 ^ n = 0 :=
 Nat.div_eq_of_lt (Nat.lt_of_lt_of_le (val_lt hl) (Nat.pow_le_pow_right (by decide) h))
theorem lt_of_div_lt {a b p : Nat} (h : a / p < b / p) : a < b := by
 rcases Nat.lt_or_ge a b with h1 | h1
 ·exact h1
 ·exact absurd (Nat.div_le_div_right (c := p) h1) (by omega)
theorem cmp_step_lt {l m : List Nat} (hl : Small l) (hm : Small m) {i : Nat} (he : val l / 4294967296 ^ (i + 1) = val m / 4294967296 ^ (i + 1)) (h : l[i]?.getD 0 < m[i]?.getD 0) : val l < val m := by
 refine lt_of_div_lt (p := 4294967296 ^ i) ?_
 rw [val_div_step hl, val_div_step hm, he]; omega
theorem cmp_step_eq {l m : List Nat} (hl : Small l) (hm : Small m) {i : Nat} (he : val l / 4294967296 ^ (i + 1) = val m / 4294967296 ^ (i + 1)) (h : l[i]?.getD 0 = m[i]?.getD 0) : val l / 4294967296 ^ i = val m / 4294967296 ^ i := by
 rw [val_div_step hl, val_div_step hm, he, h]
def smOut (wd s x _y : Nat) : Nat := (x * wd + s) % 4294967296
def smNxt (wd s x _y : Nat) : Nat := (x * wd + s) / 4294967296
theorem smNxt_lt {wd s x y : Nat} (hw : wd < 4294967296) (hx : x < 4294967296) (hs : s < 4294967296) : smNxt wd s x y < 4294967296 := by
 unfold smNxt
 refine Nat.div_lt_of_lt_mul ?_
 have : x * wd ≤ 4294967295 * 4294967295 := Nat.mul_le_mul (by omega) (by omega)
 omega
theorem sm_stp_lt {wd : Nat} (hw : wd < 4294967296) {l l2 : List Nat} (hl : Small l) (k : Nat) : stp (smNxt wd) 0 l l2 k < 4294967296 := by
 induction k with
 | zero => simp [stp]
 | succ k ih => rw [stp]; exact smNxt_lt hw (hl.get k) ih
theorem sm_outs (wd : Nat) (l l2 : List Nat) (k : Nat) : val (outs (smOut wd) (smNxt wd) 0 l l2 k) + 4294967296 ^ k * stp (smNxt wd) 0 l l2 k = val (l.take k) * wd := by
 induction k with
 | zero => simp [outs, stp, val]
 | succ k ih =>
  rw [outs, stp, val_append, length_outs, val_take_succ', Nat.add_mul, ← ih, val_one]
  generalize stp (smNxt wd) 0 l l2 k = s
  generalize l[k]?.getD 0 = x
  unfold smOut smNxt
  have := Nat.mod_add_div (x * wd + s) 4294967296
  rw [Nat.pow_succ]
  generalize (x * wd + s) % 4294967296 = p at *
  generalize (x * wd + s) / 4294967296 = q at *
  generalize 4294967296 ^ k = b at *
  have e : b * x * wd + b * s = b * p + b * 4294967296 * q := by
   rw [Nat.mul_assoc, ← Nat.mul_add, ← this, Nat.mul_add, Nat.mul_assoc]
  omega
theorem sm_end {wd : Nat} (hw : wd < 4294967296) {l : List Nat} (hl : Small l) (l2 : List Nat) : val (outs (smOut wd) (smNxt wd) 0 l l2 (l.length + 1)) = val l * wd := by
 have h := sm_outs wd l l2 (l.length + 1)
 rw [List.take_of_length_le (by omega)] at h
 have h2 : stp (smNxt wd) 0 l l2 (l.length + 1) = 0 := by
  have h3 := val_lt hl
  have h4 : val l * wd < 4294967296 ^ l.length * 4294967296 := Nat.mul_lt_mul'' h3 hw
  rw [Nat.pow_succ] at h
  generalize 4294967296 ^ l.length * 4294967296 = Q at *
  generalize stp (smNxt wd) 0 l l2 (l.length + 1) = s at *
  rcases Nat.eq_zero_or_pos s with h0 | h0
  ·exact h0
  ·exfalso
   have h5 : Q * 1 ≤ Q * s := Nat.mul_le_mul_left _ h0
   generalize Q * s = R at *
   generalize val l * wd = V at *
   omega
 rw [h2, Nat.mul_zero, Nat.add_zero] at h
 exact h
theorem add_stp_le (l l2 : List Nat) (hl : Small l) (hl2 : Small l2) (k : Nat) : stp addNxt 0 l l2 k ≤ 1 := by
 induction k with
 | zero => simp [stp]
 | succ k ih =>
  rw [stp]
  have := hl.get k; have := hl2.get k
  generalize stp addNxt 0 l l2 k = s at *
  unfold addNxt
  omega
theorem add_end1 {l l2 : List Nat} (hl : Small l) (hl2 : Small l2) {k : Nat} (h1 : l.length ≤ k) (h2 : l2.length ≤ k) : val (outs addOut addNxt 0 l l2 (k + 1)) = val l + val l2 := by
 have h := add_outs l l2 0 (k + 1)
 rw [List.take_of_length_le (by omega), List.take_of_length_le (by omega)] at h
 have h0 : stp addNxt 0 l l2 (k + 1) = 0 := by
  rw [stp, List.getElem?_eq_none (by omega), List.getElem?_eq_none (by omega)]
  have := add_stp_le l l2 hl hl2 k
  generalize stp addNxt 0 l l2 k = s at *
  show (0 + 0 + s) / 4294967296 = 0
  omega
 rw [h0, Nat.mul_zero, Nat.add_zero, Nat.add_zero] at h
 exact h
theorem div_rem (X b x : Nat) : (x + 4294967296 * (X % b)) % b = (x + 4294967296 * X) % b := by
 rw [Nat.add_mod, Nat.mul_mod, Nat.mod_mod, ← Nat.mul_mod, ← Nat.add_mod]
theorem div_quo (X b x : Nat) (hb : 0 < b) : (x + 4294967296 * X) / b = (x + 4294967296 * (X % b)) / b + 4294967296 * (X / b) := by
 conv => lhs; rw [← Nat.mod_add_div X b]
 rw [Nat.mul_add, ← Nat.add_assoc, show 4294967296 * (b * (X / b)) = b * (4294967296 * (X / b)) by rw [Nat.mul_left_comm], Nat.add_mul_div_left _ _ hb]
theorem bit_step {r b k : Nat} (hb : 0 < b) : (r / b / 2 ^ (k + 1) * 2 ^ (k + 1) + 2 ^ k) * b ≤ r → r / b / 2 ^ k * 2 ^ k = r / b / 2 ^ (k + 1) * 2 ^ (k + 1) + 2 ^ k := by
 intro h
 have h1 : r / b / 2 ^ (k + 1) * 2 ^ (k + 1) + 2 ^ k ≤ r / b := (Nat.le_div_iff_mul_le hb).2 h
 generalize r / b = q at *
 have e : q / (2 ^ k * 2) = q / 2 ^ k / 2 := (Nat.div_div_eq_div_mul ..).symm
 rw [Nat.pow_succ, e] at h1 ⊢
 have h2 : (2 * (q / 2 ^ k / 2) + 1) * 2 ^ k ≤ q := by
  rw [Nat.add_mul, Nat.one_mul, Nat.mul_comm 2, Nat.mul_assoc, Nat.mul_comm 2]; exact h1
 have h3 := (Nat.le_div_iff_mul_le (Nat.two_pow_pos k)).2 h2
 have h4 : q / 2 ^ k = 2 * (q / 2 ^ k / 2) + 1 := by omega
 conv => lhs; rw [h4]
 rw [Nat.add_mul, Nat.one_mul, Nat.mul_comm 2, Nat.mul_assoc, Nat.mul_comm 2]
theorem bit_stay {r b k : Nat} (hb : 0 < b) : r < (r / b / 2 ^ (k + 1) * 2 ^ (k + 1) + 2 ^ k) * b → r / b / 2 ^ k * 2 ^ k = r / b / 2 ^ (k + 1) * 2 ^ (k + 1) := by
 intro h
 have h1 : r / b < r / b / 2 ^ (k + 1) * 2 ^ (k + 1) + 2 ^ k := (Nat.div_lt_iff_lt_mul hb).2 h
 generalize r / b = q at *
 have e : q / (2 ^ k * 2) = q / 2 ^ k / 2 := (Nat.div_div_eq_div_mul ..).symm
 rw [Nat.pow_succ, e] at h1 ⊢
 have h2 : q < (2 * (q / 2 ^ k / 2) + 1) * 2 ^ k := by
  rw [Nat.add_mul, Nat.one_mul, Nat.mul_comm 2, Nat.mul_assoc, Nat.mul_comm 2]; exact h1
 have h3 := (Nat.div_lt_iff_lt_mul (Nat.two_pow_pos k)).2 h2
 have h4 : q / 2 ^ k = 2 * (q / 2 ^ k / 2) := by omega
 conv => lhs; rw [h4]
 rw [Nat.mul_comm 2, Nat.mul_assoc, Nat.mul_comm 2]
theorem gcd_half_left {a b : Nat} (ha : a % 2 = 0) (hb : b % 2 = 1) : Nat.gcd (a / 2) b = Nat.gcd a b := by
 conv => rhs; rw [show a = 2 * (a / 2) by omega]
 refine (Nat.Coprime.gcd_mul_left_cancel _ ?_).symm
 show Nat.gcd 2 b = 1
 rw [Nat.gcd_rec, hb]; rfl
theorem gcd_half_right {a b : Nat} (ha : a % 2 = 1) (hb : b % 2 = 0) : Nat.gcd a (b / 2) = Nat.gcd a b := by
 rw [Nat.gcd_comm, gcd_half_left hb ha, Nat.gcd_comm]
theorem gcd_sub_left {a b : Nat} (h : b ≤ a) : Nat.gcd (a - b) b = Nat.gcd a b := Nat.gcd_sub_self_left h
theorem gcd_sub_right {a b : Nat} (h : a ≤ b) : Nat.gcd a (b - a) = Nat.gcd a b := by
 rw [Nat.gcd_comm, gcd_sub_left h, Nat.gcd_comm]
theorem val_odd {l : List Nat} (h : 0 < l.length) : (l[0]?.getD 0) % 2 = val l % 2 := by
 cases l with
 | nil => simp at h
 | cons x l => simp [val]; omega
end Go.Proofs.YtbhenelehhiakaaGreat
namespace Go.Proofs.YtbhenelehhiakaaGreat
open Go.RowKit
theorem get_digit {l : List Nat} (hl : Small l) (i : Nat) : l[i]?.getD 0 = val l / 4294967296 ^ i % 4294967296 := by
 have h := val_div_step hl i
 have := hl.get i
 omega
theorem digit_above (x : Nat) {i : Nat} (h : nl x ≤ i) : x / 4294967296 ^ i = 0 :=
 Nat.div_eq_of_lt (Nat.lt_of_lt_of_le (lt_pow_nl x) (Nat.pow_le_pow_right (by decide) h))
theorem take_nl {l : List Nat} (hl : Small l) : l.take (nl (val l)) = limbs (val l) := by
 have hle := nl_val hl
 apply List.ext_getElem (by rw [List.length_take, length_limbs]; omega)
 intro i h1 h2
 rw [List.getElem_take]
 have e1 := get_digit hl i
 have e2 := get_digit (small_limbs (val l)) i
 rw [val_limbs, ← e1] at e2
 rw [List.getElem?_eq_getElem h2, List.getElem?_eq_getElem (by rw [List.length_take] at h1; omega)] at e2
 exact e2.symm
theorem zero_above {l : List Nat} (hl : Small l) {i : Nat} (h : nl (val l) ≤ i) : l[i]?.getD 0 = 0 := by
 rw [get_digit hl, digit_above _ h]
theorem top_ne {l : List Nat} (hl : Small l) (h : 0 < nl (val l)) : l[nl (val l) - 1]?.getD 0 ≠ 0 := by
 have hx : 0 < val l := by
  rcases Nat.eq_zero_or_pos (val l) with h0 | h0
  ·rw [h0] at h; simp [nl_zero] at h
  ·exact h0
 have h1 := pow_nl_le hx
 have h2 := lt_pow_nl (val l)
 rw [get_digit hl]
 have h3 : 1 ≤ val l / 4294967296 ^ (nl (val l) - 1) := (Nat.le_div_iff_mul_le (Nat.pow_pos (by decide))).2 (by rw [Nat.one_mul]; exact h1)
 have h4 : val l / 4294967296 ^ (nl (val l) - 1) < 4294967296 := by
  refine Nat.div_lt_of_lt_mul ?_
  rw [Nat.mul_comm, Nat.mul_comm, ← Nat.pow_succ, show (nl (val l) - 1).succ = nl (val l) by omega]
  exact h2
 omega
theorem NatS.at' {B : Nat} {w : World} {a : Option Addr} {n c : Nat} {l : Nt} (h : NatS B w a n c l) {k : Nat} (hk : k < n) : ∃ b o, a = some ⟨b, o, none⟩ ∧ b < w.heap.size ∧ w.cell? ⟨b, o + k, none⟩ = some (.int .u32 ((l[k]?.getD 0 : Nat) : Int)) := by
 obtain ⟨b, o, h1, _, h3, h4, _⟩ := h.pos (by omega)
 exact ⟨b, o, h1, h3, h4 k hk⟩
theorem NatS.none' {B : Nat} {w : World} {a : Option Addr} {n c : Nat} {l : Nt} (h : NatS B w a n c l) {k : Nat} (hk : ¬ k < n) : l[k]?.getD 0 = 0 := by
 rw [List.getElem?_eq_none (by rw [h.len]; omega)]; rfl
set_option maxRecDepth 100000 in
set_option maxHeartbeats 1000000 in
theorem r1Norm_any (B : Nat) (w : World) (a : Option Addr) (n c : Nat) (l : Nt) (h : NatS B w a n c l) (hn : n ≤ 17592186044416) :
  Calls Tryz.prog 139 #[.slice a n c] w (RNat w (val l)) := by
 have hsm := Lib.hid h.small
 have hNS := Lib.hid h
 have hmn : nl (val l) ≤ n := by have := nl_val h.small; rw [h.len] at this; exact this
 have hT := Lib.hid (take_nl h.small)
 have hZ := Lib.hid (fun i => zero_above (l := l) h.small (i := i))
 have hP := Lib.hid (top_ne h.small)
 clear h
 generalize hm : nl (val l) = m at *
 have HM := Lib.hid hm
 clear hm
 have hmk := fun w => make_words under_nat info_u32 m m (Nat.le_refl _) (by omega) w
 go_enter Tryz.func139, Tryz.ntmps139
 go_wp2_with fail
 go_loopw [3] (fun s wr => ∃ k : Nat, m ≤ k ∧ k ≤ n ∧ s = .int .i64 (k : Int) ∧ Hid (Ext w wr)) (fun s _ => (intOf s).toNat)
 case atStart => exact ⟨n, hmn, Nat.le_refl _, rfl, Lib.hid (Ext.refl _)⟩
 case round =>
  obtain ⟨k, hk1, hk2, rfl, HE⟩ := hrel
  by_cases hkm : m < k
  ·obtain ⟨j, rfl⟩ : ∃ j, k = j + 1 := ⟨k - 1, by omega⟩
   obtain ⟨b, o, rfl, hb, hc⟩ := hNS.out.at' (k := j) (by omega)
   have hc := (HE.out.cell (p := ⟨b, o + j, none⟩) hb).trans hc
   rw [hZ.out j (by omega)] at hc
   have hpos : 0 < (j : Int) + 1 := by omega
   go_wp2_with fail
   go_roundw
   case rel => exact ⟨j, by omega, by omega, rfl, HE⟩
   case measure => simp [intOf]
  ·obtain rfl : k = m := by omega
   have HT : Hid (∀ i : Nat, i < k → ∃ b o, a = some ⟨b, o, none⟩ ∧ wr.cell? ⟨b, o + i, none⟩ = some (.int .u32 ((l[i]?.getD 0 : Nat) : Int)) ∧ b < w.heap.size) := Lib.hid (fun i hi => by
    obtain ⟨b, o, rfl, hb, hc⟩ := hNS.out.at' (k := i) (by omega)
    exact ⟨b, o, rfl, (HE.out.cell (p := ⟨b, o + i, none⟩) hb).trans hc, hb⟩)
   have hlen := Lib.hid hNS.out.len
   have HEs := HE.out.size
   have hmk0 : ∀ w, (Instr.makeSlice 23 (.int .i64 0) (.int .i64 0)).run Tryz.prog w = .ok (.slice (some ⟨w.heap.size, 0, none⟩) 0 0) (w.alloc (.cells (words (List.replicate 0 0)) 126)) := fun w => make_words under_nat info_u32 0 0 (Nat.le_refl _) (by omega) w
   obtain ⟨wo, rfl⟩ : ∃ wo : World, wo = wr := ⟨_, rfl⟩
   rcases Nat.eq_zero_or_pos k with h0 | h0
   ·subst h0
    go_wp2_with fail
    go_loopw [5] (fun s wx => s = .int .i64 0 ∧ Hid (Ext w wx)) (fun _ _ => 0)
    case atStart => exact ⟨rfl, Lib.hid (Ext.trans HE.out ((Below.refl _ _).alloc (Nat.le_refl _) _))⟩
    case round =>
     obtain ⟨rfl, HE2⟩ := hrel
     go_wp2_with fail
     go_ret
     refine ⟨_, 0, 0, rfl, ?_, HE2.out⟩
     rw [← hT.out]
     exact ⟨rfl, Nat.le_refl _, by omega, fun e => rfl, fun i hi => absurd hi (by simp)⟩
   ·obtain ⟨j, rfl⟩ : ∃ j, k = j + 1 := ⟨k - 1, by omega⟩
    obtain ⟨b, o, rfl, hc, hb⟩ := HT.out j (by omega)
    have hne := hP.out (by omega)
    have hne' : (((l[j]?.getD 0 : Nat) : Int) == 0) = false := by simpa using hne
    have hcl := HT.out
    have hpos : 0 < (j : Int) + 1 := by omega
    clear HT hne hP
    have HCL := Lib.hid hcl
    clear hcl
    have e1 : ((j + 1 : Nat) : Int) = (j : Int) + 1 := by omega
    rw [e1] at hmk
    clear e1
    go_wp2_with fail
    go_loopw [5] (fun s wx => ∃ i : Nat, i ≤ j + 1 ∧ s = .int .i64 (i : Int) ∧ Hid (Blk wx wo.heap.size 126 (words (l.take i ++ List.replicate (j + 1 - i) 0))) ∧ Hid (Ext wo wx)) (fun s _ => j + 1 - (intOf s).toNat)
    case atStart => exact ⟨0, by omega, rfl, Lib.hid (Blk.new _ _ _), Lib.hid ((Below.refl _ _).alloc (Nat.le_refl _) _)⟩
    case round =>
     obtain ⟨i, hi, rfl, hB, hE2⟩ := hrel
     by_cases hij : i < j + 1
     ·obtain ⟨b', o', hba, hci, _⟩ := HCL.out i hij
      cases hba
      have hci := (hE2.out.cell (p := ⟨b, o + i, none⟩) (by show b < wo.heap.size; omega)).trans hci
      have hlt : i < l.length := by rw [hlen.out]; omega
      have hfill : (l.take i ++ List.replicate (j + 1 - i) 0).set i (l[i]?.getD 0) = l.take (i + 1) ++ List.replicate (j + 1 - (i + 1)) 0 := by
       rw [take_succ_get hlt, List.set_append_right _ _ (by rw [List.length_take]; omega), List.length_take, Nat.min_eq_left (by omega), Nat.sub_self, show j + 1 - i = (j + 1 - (i + 1)) + 1 by omega, List.replicate_succ, List.set_cons_zero, List.append_assoc]
       rfl
      have HF := Lib.hid hfill
      have hlL : (l.take i ++ List.replicate (j + 1 - i) 0).length = j + 1 := by rw [List.length_append, List.length_take, List.length_replicate]; omega
      have hco := hB.out.word (i := i) (by rw [hlL]; exact hij)
      have hfr := hB.out.free i
      have hwl := hB.out.lt
      have hlt2 : (i : Int) < (j : Int) + 1 := by omega
      clear hfill hlL hlt
      go_wp2_with fail
      go_roundw
      case rel =>
       refine ⟨i + 1, by omega, by go_num, Lib.hid ?_, Lib.hid (hE2.out.setCell (Nat.le_refl _) _)⟩
       have := hB.out.set i (.int .u32 ((l[i]?.getD 0 : Nat) : Int))
       rw [words_set, HF.out] at this
       exact this
      case measure => simp [intOf]; omega
     ·obtain rfl : i = j + 1 := by omega
      have hNR : NatS wo.heap.size wr (some ⟨wo.heap.size, 0, none⟩) (j + 1) (j + 1) (l.take (j + 1)) := by
       have := hB.out.nat (B := wo.heap.size) (Nat.le_refl _) ((hsm.out.take _).append (small_replicate _)) (j + 1) (by rw [List.length_append, List.length_take, hlen.out]; omega) (Nat.le_refl _) (by omega)
       rwa [Nat.sub_self, List.replicate_zero, List.append_nil, List.take_take, Nat.min_self] at this
      rw [hT.out] at hNR
      have HN := Lib.hid hNR
      clear hNR
      go_wp2_with fail
      go_ret
      exact ⟨_, _, _, rfl, HN.out.mono HEs (Kept.refl _ _), Ext.trans HE.out hE2.out⟩
end Go.Proofs.YtbhenelehhiakaaGreat
namespace Go.Proofs.YtbhenelehhiakaaGreat
open Go.RowKit
set_option maxHeartbeats 400000 in
theorem r1Of_any (x : Nat) (w : World) (hx : x < 18446744073709551616) :
  Calls Tryz.prog 116 #[.int .u64 (x : Int)] w (RNat w x) := by
 go_enter Tryz.func116, Tryz.ntmps116
 go_wp2_with fail
 refine (r1Norm_any w.heap.size _ (some ⟨w.heap.size, 0, none⟩) 2 2 [x % 4294967296, x / 4294967296] (Blk.nat (l := [x % 4294967296, x / 4294967296]) (Blk.new w 126 (words [x % 4294967296, x / 4294967296])) (Nat.le_refl _) (small_cons (by omega) (small_cons (by omega) small_nil)) 2 (Nat.le_refl _) (Nat.le_refl _) (by omega)) (by omega)).mono ?_
 rintro e w1 ⟨a1, n1, c1, rfl, h1, hE⟩
 have hv : val [x % 4294967296, x / 4294967296] = x := by simp [val]; omega
 rw [hv] at h1
 have hE1 : Ext w w1 := (((Below.refl _ w).alloc (Nat.le_refl _) _)).trans (hE.mono (by simp))
 clear hE hv
 go_wp2_with fail
 go_ret
 exact ⟨a1, n1, c1, rfl, h1.mono (by simp) (Kept.refl _ _), hE1⟩
set_option maxHeartbeats 400000 in
theorem limb_any (B : Nat) (w : World) (a : Option Addr) (n c : Nat) (l : Nt) (h : NatS B w a n c l) (i : Nat) (hi : i ≤ 9223372036854775807) :
  Calls Tryz.prog 162 #[.slice a n c, .int .i64 (i : Int)] w fun e w' => e = .returned (.int .u64 ((l[i]?.getD 0 : Nat) : Int)) ∧ w = w' := by
 have hcap := h.cap
 have hmost := h.most
 have h0 : decide ((i : Int) < 0) = false := decide_eq_false (by omega)
 by_cases hin : i < n
 ·obtain ⟨b, o, rfl, hb, hc⟩ := h.at' hin
  have h1 : decide (n ≤ i) = false := decide_eq_false (by omega)
  have h2 : (i : Int) < (n : Int) := by omega
  have hx := h.small.get i
  generalize l[i]?.getD 0 = x at *
  clear h
  go_enter Tryz.func162, Tryz.ntmps162
  go_wp2_with fail
  go_ret
  exact ⟨rfl, rfl⟩
 ·have h1 : decide (n ≤ i) = true := decide_eq_true (by omega)
  have hz := h.none' hin
  have HZ := Lib.hid hz
  clear h hz
  go_enter Tryz.func162, Tryz.ntmps162
  go_wp2_with fail
  go_ret
  exact ⟨by rw [HZ.out]; rfl, rfl⟩
theorem val_zero_iff {l : List Nat} (hl : Small l) : val l = 0 ↔ ∀ i : Nat, l[i]?.getD 0 = 0 := by
 constructor
 ·intro h i
  rw [get_digit hl, h, Nat.zero_div]
 ·intro h
  refine val_eq_zero fun x hx => ?_
  obtain ⟨i, hi, rfl⟩ := List.getElem_of_mem hx
  have := h i
  rwa [List.getElem?_eq_getElem hi] at this
set_option maxHeartbeats 400000 in
theorem r1Zero_any (B : Nat) (w : World) (a : Option Addr) (n c : Nat) (l : Nt) (h : NatS B w a n c l) :
  Calls Tryz.prog 103 #[.slice a n c] w fun e w' => e = .returned (.bool (decide (val l = 0))) ∧ w = w' := by
 have hcap := h.cap
 have hmost := h.most
 obtain ⟨r, hr⟩ : ∃ r, r = decide (val l = 0) := ⟨_, rfl⟩
 rw [← hr]
 have HR := Lib.hid hr
 have HV := Lib.hid (val_zero_iff (l := l) h.small)
 have HN := Lib.hid h
 clear hr h
 go_enter Tryz.func103, Tryz.ntmps103
 go_wp2_with fail
 go_loop [7] (fun s => ∃ i : Nat, i ≤ n ∧ s = .int .i64 (i : Int) ∧ Hid (∀ j, j < i → l[j]?.getD 0 = 0)) (fun s => n - (intOf s).toNat)
 case atStart => exact ⟨0, Nat.zero_le _, rfl, Lib.hid (fun j hj => by omega)⟩
 case round =>
  obtain ⟨i, hi, rfl, hz⟩ := hrel
  by_cases hin : i < n
  ·obtain ⟨b, o, rfl, hb, hc⟩ := HN.out.at' hin
   by_cases hx : l[i]?.getD 0 = 0
   ·rw [hx] at hc
    have HX := Lib.hid hx
    clear hx
    go_wp2_with fail
    go_round
    case rel => exact ⟨i + 1, by omega, by go_num, Lib.hid (fun j hj => by
     by_cases hji : j < i
     ·exact hz.out j hji
     ·obtain rfl : j = i := by omega
      exact HX.out)⟩
    case measure => simp [intOf]; omega
   ·have hne : (((l[i]?.getD 0 : Nat) : Int) != 0) = true := by simpa using hx
    have HX := Lib.hid hx
    clear hx
    go_wp2_with fail
    go_ret
    exact ⟨by rw [HR.out, decide_eq_false (fun h => HX.out (HV.out.1 h i))]; rfl, rfl⟩
  ·obtain rfl : i = n := by omega
   go_wp2_with fail
   go_ret
   exact ⟨by rw [HR.out, decide_eq_true (HV.out.2 (fun j => by
    by_cases hji : j < i
    ·exact hz.out j hji
    ·exact HN.out.none' hji))]; rfl, rfl⟩
set_option maxHeartbeats 400000 in
theorem r1Same_any (B : Nat) (w : World) (a a2 : Option Addr) (n c n2 c2 : Nat) (l l2 : Nt) (h : NatS B w a n c l) (h2 : NatS B w a2 n2 c2 l2) :
  Calls Tryz.prog 105 #[.slice a n c, .slice a2 n2 c2] w fun e w' => e = .returned (.bool (decide (l = l2))) ∧ Ext w w' := by
 have hcap := h.cap
 have hmost := h.most
 obtain ⟨r, hr⟩ : ∃ r, r = decide (l = l2) := ⟨_, rfl⟩
 rw [← hr]
 have HR := Lib.hid hr
 have HN := Lib.hid h
 have HN2 := Lib.hid h2
 clear hr h h2
 by_cases hnn : n = n2
 ·subst hnn
  go_enter Tryz.func105, Tryz.ntmps105
  go_wp2_with fail
  go_loopw [13] (fun s wr => ∃ i : Nat, i ≤ n ∧ s = .int .i64 (i : Int) ∧ Hid (∀ j, j < i → l[j]?.getD 0 = l2[j]?.getD 0) ∧ Hid (Ext w wr)) (fun s _ => n - (intOf s).toNat)
  case atStart => exact ⟨0, Nat.zero_le _, rfl, Lib.hid (fun j hj => by omega), Lib.hid (Ext.refl _)⟩
  case round =>
   obtain ⟨i, hi, rfl, hz, HE⟩ := hrel
   by_cases hin : i < n
   ·obtain ⟨b, o, rfl, hb, hc⟩ := HN.out.at' hin
    obtain ⟨b2, o2, rfl, hb2, hc2⟩ := HN2.out.at' hin
    have hc := (HE.out.cell (p := ⟨b, o + i, none⟩) hb).trans hc
    have hc2 := (HE.out.cell (p := ⟨b2, o2 + i, none⟩) hb2).trans hc2
    have hik : (i : Int) < n := by omega
    have HX : Hid (l[i]?.getD 0 = l[i]?.getD 0) := Lib.hid rfl
    have HY : Hid (l2[i]?.getD 0 = l2[i]?.getD 0) := Lib.hid rfl
    generalize hx : l[i]?.getD 0 = x at hc HX
    generalize hy : l2[i]?.getD 0 = y at hc2 HY
    have hxh := Lib.hid hx
    have hyh := Lib.hid hy
    clear hx hy HX HY
    by_cases hxy : x = y
    ·subst hxy
     go_wp2_with fail
     go_quiet (fail)
     go_wp2_with fail
     go_roundw
     case rel => exact ⟨i + 1, by omega, by go_num, Lib.hid (fun j hj => by
      by_cases hji : j < i
      ·exact hz.out j hji
      ·obtain rfl : j = i := by omega
       rw [hxh.out, hyh.out]), Lib.hid (below_drewN HE.out _)⟩
     case measure => simp [intOf]; omega
    ·have hne : ((x : Int) != (y : Int)) = true := by simp; omega
     have HXY := Lib.hid hxy
     clear hxy
     go_wp2_with fail
     go_quiet (fail)
     go_wp2_with fail
     go_ret
     exact ⟨by rw [HR.out, decide_eq_false (fun h => HXY.out (by rw [← hxh.out, ← hyh.out, h]))]; rfl, below_drewN HE.out _⟩
   ·obtain rfl : i = n := by omega
    go_wp2_with fail
    go_ret
    have hll : l = l2 := by
     refine List.ext_getElem (HN.out.len.trans HN2.out.len.symm) fun j h1 h2 => ?_
     have := hz.out j (Nat.lt_of_lt_of_eq h1 HN.out.len)
     rwa [List.getElem?_eq_getElem h1, List.getElem?_eq_getElem h2] at this
    exact ⟨by rw [HR.out, decide_eq_true hll]; rfl, HE.out⟩
 ·have hne : ((n : Int) != (n2 : Int)) = true := by simp; omega
  have HNN := Lib.hid hnn
  clear hnn
  go_enter Tryz.func105, Tryz.ntmps105
  go_wp2_with fail
  go_ret
  exact ⟨by rw [HR.out, decide_eq_false (fun h => HNN.out (by rw [← HN.out.len, ← HN2.out.len, h]))]; rfl, Ext.refl _⟩
set_option maxHeartbeats 400000 in
theorem r1Cmp_any (B : Nat) (w : World) (a a2 : Option Addr) (n c n2 c2 : Nat) (l l2 : Nt) (h : NatS B w a n c l) (h2 : NatS B w a2 n2 c2 l2) (m m2 : Nat) (hm : Hid (val l = m)) (hm2 : Hid (val l2 = m2)) :
  Calls Tryz.prog 150 #[.slice a n c, .slice a2 n2 c2] w fun e w' => e = .returned (.int .i64 (cmpI m m2)) ∧ w = w' := by
 have hcap := h.cap
 have hmost := h.most
 have hcap2 := h2.cap
 have hmost2 := h2.most
 have HN := Lib.hid h
 have HN2 := Lib.hid h2
 have hn := Lib.hid h.len
 have hn2 := Lib.hid h2.len
 have hs1 := h.small
 have hs2 := h2.small
 clear h h2
 rcases (by omega : n2 ≤ n ∨ n < n2) with hc | hc
 ·have hcb : decide (n < n2) = false := decide_eq_false (by omega)
  have HMX : Hid (max n n2 = n) := Lib.hid (by omega)
  have hmx : max n n2 ≤ 9223372036854775807 := by omega
  go_enter Tryz.func150, Tryz.ntmps150
  go_wp2_with fail
  go_loopg [6] (max n n2) (fun q s wr => ∃ j : Nat, j ≤ max n n2 ∧ q = j ∧ (∃ z : Int, s = .int .i64 z ∧ z = (j : Int) - 1) ∧ Hid (val l / 4294967296 ^ j = val l2 / 4294967296 ^ j) ∧ w = wr)
  case atStart => exact ⟨n, by rw [HMX.out]; exact Nat.le_refl _, HMX.out, ⟨_, rfl, rfl⟩, Lib.hid (by rw [val_div_len hs1 (by rw [hn.out]; omega), val_div_len hs2 (by rw [hn2.out]; omega)]), rfl⟩
  case round =>
   obtain ⟨j, hj, hq, ⟨z, rfl, hz⟩, hd, rfl⟩ := hrel
   by_cases h0 : j = 0
   ·subst h0
    obtain rfl : z = -1 := by omega
    clear hz
    have hcm : cmpI m m2 = 0 := cmpI_eq (by have := hd.out; rw [Nat.pow_zero, Nat.div_one, Nat.div_one, hm.out, hm2.out] at this; exact this)
    have HC := Lib.hid hcm
    clear hcm
    go_wp2_with fail
    go_ret
    exact ⟨by rw [HC.out]; rfl, rfl⟩
   ·obtain ⟨i, rfl⟩ : ∃ i, j = i + 1 := ⟨j - 1, by omega⟩
    obtain rfl : z = (i : Int) := by omega
    clear hz
    have K1 := Lib.hid (limb_any B w a n c l HN.out i (by omega))
    have K2 := Lib.hid (limb_any B w a2 n2 c2 l2 HN2.out i (by omega))
    have q1 := cmp_step_lt hs1 hs2 hd.out
    have q2 := cmp_step_lt hs2 hs1 hd.out.symm
    have q3 := cmp_step_eq hs1 hs2 hd.out
    rw [hm.out, hm2.out] at q1
    rw [hm.out, hm2.out] at q2
    have hx := hs1.get i
    have hy := hs2.get i
    generalize l[i]?.getD 0 = x at *
    generalize l2[i]?.getD 0 = y at *
    by_cases hxy : x = y
    ·subst hxy
     have K3 := Lib.hid (q3 rfl)
     clear q1 q2 q3
     have hlt : decide (x < x) = false := decide_eq_false (by omega)
     go_wp2_with (go_at_call 162; first | ((with_reducible refine K1.out.mono ?_); rintro e w' ⟨rfl, rfl⟩) | ((with_reducible refine K2.out.mono ?_); rintro e w' ⟨rfl, rfl⟩))
     go_roundg i
     case rel => exact ⟨i, by omega, rfl, ⟨_, rfl, rfl⟩, K3, rfl⟩
     case measure => omega
    ·by_cases hlt : x < y
     ·have HC := Lib.hid (cmpI_lt (q1 hlt))
      have hl : decide (x < y) = true := decide_eq_true hlt
      clear q1 q2 q3 hxy
      go_wp2_with (go_at_call 162; first | ((with_reducible refine K1.out.mono ?_); rintro e w' ⟨rfl, rfl⟩) | ((with_reducible refine K2.out.mono ?_); rintro e w' ⟨rfl, rfl⟩))
      go_ret
      exact ⟨by rw [HC.out]; rfl, rfl⟩
     ·have hgt : y < x := by omega
      have HC := Lib.hid (cmpI_gt (q2 hgt))
      have hl : decide (x < y) = false := decide_eq_false hlt
      have hl2 : decide (y < x) = true := decide_eq_true hgt
      clear q1 q2 q3 hxy
      go_wp2_with (go_at_call 162; first | ((with_reducible refine K1.out.mono ?_); rintro e w' ⟨rfl, rfl⟩) | ((with_reducible refine K2.out.mono ?_); rintro e w' ⟨rfl, rfl⟩))
      go_ret
      exact ⟨by rw [HC.out]; rfl, rfl⟩
 ·have hcb : decide (n < n2) = true := decide_eq_true hc
  have HMX : Hid (max n n2 = n2) := Lib.hid (by omega)
  have hmx : max n n2 ≤ 9223372036854775807 := by omega
  go_enter Tryz.func150, Tryz.ntmps150
  go_wp2_with fail
  go_loopg [6] (max n n2) (fun q s wr => ∃ j : Nat, j ≤ max n n2 ∧ q = j ∧ (∃ z : Int, s = .int .i64 z ∧ z = (j : Int) - 1) ∧ Hid (val l / 4294967296 ^ j = val l2 / 4294967296 ^ j) ∧ w = wr)
  case atStart => exact ⟨n2, by rw [HMX.out]; exact Nat.le_refl _, HMX.out, ⟨_, rfl, rfl⟩, Lib.hid (by rw [val_div_len hs1 (by rw [hn.out]; omega), val_div_len hs2 (by rw [hn2.out]; omega)]), rfl⟩
  case round =>
   obtain ⟨j, hj, hq, ⟨z, rfl, hz⟩, hd, rfl⟩ := hrel
   by_cases h0 : j = 0
   ·subst h0
    obtain rfl : z = -1 := by omega
    clear hz
    have hcm : cmpI m m2 = 0 := cmpI_eq (by have := hd.out; rw [Nat.pow_zero, Nat.div_one, Nat.div_one, hm.out, hm2.out] at this; exact this)
    have HC := Lib.hid hcm
    clear hcm
    go_wp2_with fail
    go_ret
    exact ⟨by rw [HC.out]; rfl, rfl⟩
   ·obtain ⟨i, rfl⟩ : ∃ i, j = i + 1 := ⟨j - 1, by omega⟩
    obtain rfl : z = (i : Int) := by omega
    clear hz
    have K1 := Lib.hid (limb_any B w a n c l HN.out i (by omega))
    have K2 := Lib.hid (limb_any B w a2 n2 c2 l2 HN2.out i (by omega))
    have q1 := cmp_step_lt hs1 hs2 hd.out
    have q2 := cmp_step_lt hs2 hs1 hd.out.symm
    have q3 := cmp_step_eq hs1 hs2 hd.out
    rw [hm.out, hm2.out] at q1
    rw [hm.out, hm2.out] at q2
    have hx := hs1.get i
    have hy := hs2.get i
    generalize l[i]?.getD 0 = x at *
    generalize l2[i]?.getD 0 = y at *
    by_cases hxy : x = y
    ·subst hxy
     have K3 := Lib.hid (q3 rfl)
     clear q1 q2 q3
     have hlt : decide (x < x) = false := decide_eq_false (by omega)
     go_wp2_with (go_at_call 162; first | ((with_reducible refine K1.out.mono ?_); rintro e w' ⟨rfl, rfl⟩) | ((with_reducible refine K2.out.mono ?_); rintro e w' ⟨rfl, rfl⟩))
     go_roundg i
     case rel => exact ⟨i, by omega, rfl, ⟨_, rfl, rfl⟩, K3, rfl⟩
     case measure => omega
    ·by_cases hlt : x < y
     ·have HC := Lib.hid (cmpI_lt (q1 hlt))
      have hl : decide (x < y) = true := decide_eq_true hlt
      clear q1 q2 q3 hxy
      go_wp2_with (go_at_call 162; first | ((with_reducible refine K1.out.mono ?_); rintro e w' ⟨rfl, rfl⟩) | ((with_reducible refine K2.out.mono ?_); rintro e w' ⟨rfl, rfl⟩))
      go_ret
      exact ⟨by rw [HC.out]; rfl, rfl⟩
     ·have hgt : y < x := by omega
      have HC := Lib.hid (cmpI_gt (q2 hgt))
      have hl : decide (x < y) = false := decide_eq_false hlt
      have hl2 : decide (y < x) = true := decide_eq_true hgt
      clear q1 q2 q3 hxy
      go_wp2_with (go_at_call 162; first | ((with_reducible refine K1.out.mono ?_); rintro e w' ⟨rfl, rfl⟩) | ((with_reducible refine K2.out.mono ?_); rintro e w' ⟨rfl, rfl⟩))
      go_ret
      exact ⟨by rw [HC.out]; rfl, rfl⟩
end Go.Proofs.YtbhenelehhiakaaGreat
namespace Go.Proofs.YtbhenelehhiakaaGreat
open Go.RowKit
theorem flat_get {css : List (List Value)} {s : Nat} (h : ∀ cs ∈ css, cs.length = s) : ∀ {k j : Nat} (hk : k < css.length) (hj : j < css[k].length), css.flatten[k * s + j]? = some css[k][j] := by
 induction css with
 | nil => intro k j hk; simp at hk
 | cons c css ih =>
  intro k j hk hj
  have hc : c.length = s := h c (List.mem_cons_self ..)
  cases k with
  | zero =>
   simp only [List.getElem_cons_zero] at hj ⊢
   simp only [List.flatten_cons, Nat.zero_mul, Nat.zero_add]
   rw [List.getElem?_append_left hj, List.getElem?_eq_getElem hj]
  | succ k =>
   simp only [List.getElem_cons_succ] at hj ⊢
   have := ih (fun cs hcs => h cs (List.mem_cons_of_mem _ hcs)) (k := k) (j := j) (by simpa using hk) hj
   rw [List.flatten_cons, List.getElem?_append_right (by rw [hc, Nat.succ_mul]; omega), ← this]
   congr 1
   rw [hc, Nat.succ_mul]; omega
structure Grp {α : Type} (r : Rd α) (B : Nat) (e : TypeId) (w : World) (v : Value) (n : Nat) (xs : List α) (css : List (List Value)) : Prop where
 len : css.length = n
 xlen : xs.length = n
 own : w.ownsRow B e r.size v n css.flatten
 parts : ∀ k (hk : k < css.length) (hx : k < xs.length), ∃ (Wk : World) (Bk : Nat), B ≤ Bk ∧ r.ok Bk Wk css[k] xs[k] ∧ Wk.heap.size ≤ w.heap.size ∧ ∀ b, Bk ≤ b → b < Wk.heap.size → w.heap[b]? = Wk.heap[b]? ∧ v.ownBlock ≠ some b
theorem kept_int {B : Nat} {w w' : World} (h : ∀ b, B ≤ b → b < w.heap.size → w'.heap[b]? = w.heap[b]?) : Kept B w w' := fun b o v hc => by
 have e := h b hc.ge (cel_lt hc)
 exact ⟨hc.ge, (World.cell?_of_block (a := ⟨b, o, none⟩) e).trans hc.cell, (World.frozen?_of_block (a := ⟨b, o, none⟩) e).trans hc.free⟩
theorem Grp.keep {α : Type} {r : Rd α} {B : Nat} {e : TypeId} {w w' : World} {v : Value} {n : Nat} {xs : List α} {css : List (List Value)} (h : Grp r B e w v n xs css) (hs : w.heap.size ≤ w'.heap.size) (hb : ∀ b, B ≤ b → b < w.heap.size → w'.heap[b]? = w.heap[b]?) : Grp r B e w' v n xs css :=
 ⟨h.len, h.xlen, ⟨h.own.1, by
  rcases h.own.2 with h0 | ⟨g, cap, cur, h1, h2, h3, h4⟩
  ·exact .inl h0
  ·exact .inr ⟨g, cap, cur, h1, h2, (hb g h2 (Array.getElem?_eq_some_iff.1 h3).1).trans h3, h4⟩⟩, fun k hk hx => by
  obtain ⟨Wk, Bk, p1, p2, p3, p4⟩ := h.parts k hk hx
  refine ⟨Wk, Bk, p1, p2, Nat.le_trans p3 hs, fun b h1 h2 => ⟨?_, (p4 b h1 h2).2⟩⟩
  exact (hb b (Nat.le_trans p1 h1) (Nat.lt_of_lt_of_le h2 p3)).trans (p4 b h1 h2).1⟩
theorem Grp.nil {α : Type} (r : Rd α) (B : Nat) (e : TypeId) (w : World) : Grp r B e w (.slice none 0 0) 0 [] [] := ⟨rfl, rfl, World.ownsRow_nil _ _ _ _, fun k hk => absurd hk (by simp)⟩
theorem Grp.add {α : Type} {r : Rd α} {B : Nat} {e : TypeId} {w w' : World} {v v' : Value} {n : Nat} {xs : List α} {css : List (List Value)} {x : α} {cs : List Value} {Bx : Nat} (h : Grp r B e w v n xs css)
  (hown : w'.ownsRow B e r.size v' (n + 1) (css.flatten ++ cs)) (hg : w.grownBy w' v.ownBlock) (hat : v'.ownBlock = v.ownBlock ∨ v'.ownBlock = some w.heap.size)
  (hx : r.ok Bx w cs x) (hB : B ≤ Bx) (hBx : ∀ g, v.ownBlock = some g → g < Bx) : Grp r B e w' v' (n + 1) (xs ++ [x]) (css ++ [cs]) :=
 ⟨by rw [List.length_append, h.len]; rfl, by rw [List.length_append, h.xlen]; rfl, by rw [List.flatten_append]; simpa using hown, fun k hk hkx => by
  have fin : ∀ (Wk : World) (Bk : Nat), Wk.heap.size ≤ w.heap.size → (∀ b, Bk ≤ b → b < Wk.heap.size → w.heap[b]? = Wk.heap[b]? ∧ v.ownBlock ≠ some b) → ∀ b, Bk ≤ b → b < Wk.heap.size → w'.heap[b]? = Wk.heap[b]? ∧ v'.ownBlock ≠ some b := fun Wk Bk p3 p4 b h1 h2 => by
   obtain ⟨q1, q2⟩ := p4 b h1 h2
   refine ⟨(hg.block b (Nat.lt_of_lt_of_le h2 p3) (fun e => q2 e.symm)).trans q1, ?_⟩
   rcases hat with hat | hat
   ·rw [hat]; exact q2
   ·rw [hat]; intro e; cases e; omega
  by_cases hkn : k < css.length
  ·obtain ⟨Wk, Bk, p1, p2, p3, p4⟩ := h.parts k hkn (by rw [h.xlen, ← h.len]; exact hkn)
   refine ⟨Wk, Bk, p1, ?_, Nat.le_trans p3 hg.size, fin Wk Bk p3 p4⟩
   rw [List.getElem_append_left hkn, List.getElem_append_left (by rw [h.xlen, ← h.len]; exact hkn)]
   exact p2
  ·have e1 : k = css.length := by rw [List.length_append] at hk; simp at hk; omega
   refine ⟨w, Bx, hB, ?_, hg.size, fin w Bx (Nat.le_refl _) (fun b h1 _ => ⟨rfl, fun e => by have := hBx b e; omega⟩)⟩
   rw [List.getElem_append_right (by omega), List.getElem_append_right (by rw [h.xlen, ← h.len]; omega)]
   simpa using hx⟩
theorem Grp.sl {α : Type} {r : Rd α} {B : Nat} {e : TypeId} {w : World} {v : Value} {n : Nat} {xs : List α} {css : List (List Value)} (h : Grp r B e w v n xs css) : ∃ a c, v = .slice a n c ∧ Sl r B w a n c xs := by
 have hl : ∀ cs ∈ css, cs.length = r.size := fun cs hcs => by
  obtain ⟨k, hk, rfl⟩ := List.getElem_of_mem hcs
  obtain ⟨Wk, Bk, _, p2, _⟩ := h.parts k hk (by rw [h.xlen, ← h.len]; exact hk)
  exact r.len p2
 rcases h.own.2 with ⟨h0, h1⟩ | ⟨g, cap, cur, h1, h2, h3, h4, h5, h6, h7⟩
 ·subst h1
  refine ⟨none, 0, h0, h.xlen, Nat.le_refl _, by omega, fun _ => rfl, fun i hi => absurd hi (by rw [h.xlen]; omega)⟩
 ·refine ⟨some ⟨g, 0, none⟩, cap, h1, h.xlen, h4, h5, fun e => (by cases e), fun i hi => ?_⟩
  have hic : i < css.length := by rw [h.len, ← h.xlen]; exact hi
  obtain ⟨Wk, Bk, p1, p2, p3, p4⟩ := h.parts i hic hi
  refine ⟨g, 0, css[i], rfl, r.mono p2 p1 (kept_int fun b q1 q2 => (p4 b q1 q2).1), fun j hj => ?_⟩
  have hf := flat_get hl hic hj
  have hown : w.ownsRow B e r.size (.slice (some ⟨g, 0, none⟩) n cap) n css.flatten := by rw [← h1]; exact h.own
  have hlt : i * r.size + j < n * r.size := by
   have := (List.getElem?_eq_some_iff.1 hf).1
   rw [h.own.1] at this; exact this
  exact ⟨h2, by rw [Nat.zero_add]; exact (hown.cellAt (i * r.size + j) hlt).trans hf, hown.frozenAt _⟩
theorem make_any {P : Program} {t e : TypeId} {z : Value} {s by_ : Nat} (ht : P.underlying t = some (.slice e)) (hi : (P.info? e).map (fun i => (i.zero, i.size, i.bytes)) = some (some z, s, by_)) (n m : Nat) (hn : n ≤ m) (hm : m ≤ 8796093022208) (hb : m * by_ ≤ 140737488355328) : ∃ cs : Array Value, cs.size = m * s ∧ ∀ w : World,
  (Instr.makeSlice t (.int .i64 (n : Int)) (.int .i64 (m : Int))).run P w = .ok (.slice (some ⟨w.heap.size, 0, none⟩) n m) (w.alloc (.cells cs e)) := by
 obtain ⟨i0, h1, h2, h3, h4⟩ := info_parts hi
 refine ⟨madeCells z.cells (m * i0.size), by rw [h3]; simp [madeCells], fun w => ?_⟩
 have hmb : (i0.bytes : Int) * (m : Int) ≤ 281474976710656 := by
  rw [h4, ← Int.natCast_mul, Nat.mul_comm]
  omega
 have := run_make (P := P) w t e i0 _ ht h1 h2 .i64 .i64 (n : Int) (m : Int) (by omega) (by omega) hmb (by omega)
 rw [this]
 simp
def rIntN : Rd Int where
 size := 2
 ok B w cs z := ∃ a n c, cs = [.bool (decide (z < 0)), .slice a n c] ∧ NatS B w a n c (limbs z.natAbs)
 len h := by obtain ⟨a, n, c, h, _⟩ := h; rw [h]; rfl
 mono h hB hk := by
  obtain ⟨a, n, c, h, hs⟩ := h
  exact ⟨a, n, c, h, hs.mono hB hk⟩
def rRowsN : Rd (List Int) := rIntN.slice
end Go.Proofs.YtbhenelehhiakaaGreat
